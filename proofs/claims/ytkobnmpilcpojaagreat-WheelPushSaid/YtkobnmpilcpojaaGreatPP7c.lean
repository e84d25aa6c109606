/- Plain Lean: what the laws of this program's functions come to, in numbers and lists; no program is run here. -/
import Derived.Test.YtkobnmpilcpojaaGreatPP7u
set_option linter.unusedVariables false
set_option linter.unusedSimpArgs false
set_option maxRecDepth 100000
namespace Go.Proofs.YtkobnmpilcpojaaGreat
open Go Go.Ab Go.Proofs Go.IntWalk
theorem size44 (x : Int × Unit) (ha : I64 x.1) : fn83 x = some (absV x.1, ()) := by
  obtain ⟨a, u⟩ := x
  have ha : I64 a := ha
  unfold I64 at ha
  unfold fn83 law83 absV
  simp only
  by_cases h : a < 0
  · rw [decide_eq_true h, if_pos h]
    have e : IntKind.u64.wrap (IntKind.u64.wrap (IntKind.i64.wrap (0 - IntKind.i64.wrap (a + 1))) + 1) = -a := by rw [u64m, u64m, i64m, i64m]; omega
    rw [e]; rfl
  · rw [decide_eq_false h, if_neg h, u64in a (by omega)]; rfl
theorem bound43 (m : Mx1T) (x : Bool × Unit) : fn84 m x = some (res (true, bif x.1 then -9223372036854775808 else 9223372036854775807)) := by
  obtain ⟨b, u⟩ := x
  unfold fn84 law84; cases b <;> rfl
theorem far43 (m : Mx1T) (neg : Bool) (n : Int) (hn : n > 9223372036854775808) : some (res (true, bif neg then -9223372036854775808 else 9223372036854775807)) = some (res (satS m.1 (if neg = true then -n else n))) := by
  unfold satS
  cases neg
  · show some (res (true, 9223372036854775807)) = some (res (if n > 9223372036854775807 then (true, 9223372036854775807) else if n < -9223372036854775808 then (true, -9223372036854775808) else (m.1, n)))
    rw [if_pos (by omega)]
  · show some (res (true, -9223372036854775808)) = some (res (if -n > 9223372036854775807 then (true, 9223372036854775807) else if -n < -9223372036854775808 then (true, -9223372036854775808) else (m.1, -n)))
    rw [if_neg (by omega), if_pos (by omega)]
theorem signed45 (m : Mx1T) (x : Bool × Int × Unit) (h : 0 ≤ x.2.1 ∧ x.2.1 < 18446744073709551616) : fn85 m x = some (res (satS m.1 (if x.1 = true then -x.2.1 else x.2.1))) := by
  obtain ⟨neg, n, u⟩ := x
  have h : 0 ≤ n ∧ n < 18446744073709551616 := h
  unfold fn85 law85
  simp only [bound43, Option.bind_some]
  by_cases c1 : n > 9223372036854775808
  · have e1 : (n == 9223372036854775808) = false := by simp; omega
    rw [e1, decide_eq_true (show n > 9223372036854775807 by omega)]
    rw [← far43 m neg n c1]
    cases neg <;> rfl
  · cases neg
    · simp only [cond_false]
      by_cases c2 : n = 9223372036854775808
      · subst c2; rfl
      · rw [decide_eq_false (show ¬ n > 9223372036854775807 by omega), i64_in _ (by omega), if_neg (by decide), satS_in (show I64 n from ⟨by omega, by omega⟩)]; rfl
    · simp only [cond_true, if_true]
      by_cases c2 : n = 9223372036854775808
      · subst c2; rfl
      · have e1 : (n == 9223372036854775808) = false := by simpa using c2
        rw [e1, decide_eq_false (show ¬ n > 9223372036854775807 by omega), i64_in n (by omega), i64_in _ (by omega), satS_in (show I64 (-n) from ⟨by omega, by omega⟩)]
        simp only [cond_false, Int.zero_sub]; rfl
theorem sub22 (m : Mx1T) (x : Int × Int × Unit) (ha : I64 x.1) (hb : I64 x.2.1) : fn81 m x = some (res (subS m.1 x.1 x.2.1)) := by
  obtain ⟨a, b, u⟩ := x
  have ha : I64 a := ha
  have hb : I64 b := hb
  unfold I64 at ha hb
  unfold fn81 law81 subS satS
  simp only
  by_cases h1 : b < 0
  · rw [decide_eq_true h1, decide_eq_false (show ¬ b > 0 by omega), i64_in (9223372036854775807 + b) (by omega)]
    by_cases h2 : a > 9223372036854775807 + b
    · rw [decide_eq_true h2, if_pos (by omega)]; rfl
    · rw [decide_eq_false h2, if_neg (by omega), if_neg (by omega), i64_in (a - b) (by omega)]; rfl
  · rw [decide_eq_false h1]
    by_cases h3 : b > 0
    · rw [decide_eq_true h3, i64_in (-9223372036854775808 + b) (by omega)]
      by_cases h2 : a < -9223372036854775808 + b
      · rw [decide_eq_true h2, if_neg (by omega), if_pos (by omega)]; rfl
      · rw [decide_eq_false h2, if_neg (by omega), if_neg (by omega), i64_in (a - b) (by omega)]; rfl
    · rw [decide_eq_false h3, if_neg (by omega), if_neg (by omega), i64_in (a - b) (by omega)]; rfl
theorem add41 (m : Mx1T) (x : Int × Int × Unit) (ha : I64 x.1) (hb : I64 x.2.1) : fn32 m x = some (res (addS m.1 x.1 x.2.1)) := by
  obtain ⟨a, b, u⟩ := x
  have ha : I64 a := ha
  have hb : I64 b := hb
  unfold I64 at ha hb
  unfold fn32 law32 addS satS
  simp only
  by_cases h1 : b > 0
  · rw [decide_eq_true h1, decide_eq_false (show ¬ b < 0 by omega), i64_in (9223372036854775807 - b) (by omega)]
    by_cases h2 : a > 9223372036854775807 - b
    · rw [decide_eq_true h2, if_pos (by omega)]; rfl
    · rw [decide_eq_false h2, if_neg (by omega), if_neg (by omega), i64_in (a + b) (by omega)]; rfl
  · rw [decide_eq_false h1]
    by_cases h3 : b < 0
    · rw [decide_eq_true h3, i64_in (-9223372036854775808 - b) (by omega)]
      by_cases h2 : a < -9223372036854775808 - b
      · rw [decide_eq_true h2, if_neg (by omega), if_pos (by omega)]; rfl
      · rw [decide_eq_false h2, if_neg (by omega), if_neg (by omega), i64_in (a + b) (by omega)]; rfl
    · rw [decide_eq_false h3, if_neg (by omega), if_neg (by omega), i64_in (a + b) (by omega)]; rfl
theorem neg64 (m : Mx1T) (x : Int × Unit) (ha : I64 x.1) : fn88 m x = some (res (subS m.1 0 x.1)) := by
  unfold fn88 law88
  exact (bindSome (sub22 m (0, x) (show I64 0 from ⟨by decide, by decide⟩) ha)).trans rfl
theorem bit63 (x : Int) (i : Nat) (hx : 0 ≤ x ∧ x ≤ 9223372036854775808) (h32 : 32 ≤ i) (hi : i < 96) : (Int.fdiv x (2 ^ min (IntKind.u64.wrap (IntKind.i64.wrap ((i : Int) - 32))).toNat 64)).tmod 2 = x * 4294967296 / 2 ^ i % 2 := by
  have e : min (IntKind.u64.wrap (IntKind.i64.wrap ((i : Int) - 32))).toNat 64 = i - 32 := by
    rw [i64_in _ (by omega), u64in _ (by omega)]; omega
  have p : (0 : Int) < 2 ^ (i - 32) := Int.pow_pos (by decide)
  rw [e, Int.fdiv_eq_ediv_of_nonneg _ (Int.le_of_lt p), Int.tmod_eq_emod_of_nonneg (Int.ediv_nonneg hx.1 (Int.le_of_lt p))]
  have e2 : (2 : Int) ^ i = 2 ^ (i - 32) * 4294967296 := by
    have : (4294967296 : Int) = 2 ^ 32 := by decide
    rw [this, ← Int.pow_add, show i - 32 + 32 = i by omega]
  rw [e2, Int.mul_ediv_mul_of_pos_left _ _ (by decide)]
theorem low63 (x : Int) (i : Nat) (hi : i < 32) : x * 4294967296 / 2 ^ i % 2 = 0 := by
  have e2 : (4294967296 : Int) = 2 ^ (32 - i) * 2 ^ i := by
    have : (4294967296 : Int) = 2 ^ 32 := by decide
    rw [this, ← Int.pow_add, show 32 - i + i = 32 by omega]
  have p : (0 : Int) < 2 ^ i := Int.pow_pos (by decide)
  rw [e2, ← Int.mul_assoc, Int.mul_ediv_cancel _ (by omega), show 32 - i = (31 - i) + 1 by omega, Int.pow_succ, ← Int.mul_assoc]
  omega
theorem lx131 (N : Nat) (hN : 97 ≤ N) (x y : Int) (hx : 0 ≤ x ∧ x ≤ 9223372036854775808) (hy : 0 < y ∧ y ≤ 9223372036854775808) : law131 N (x, y, ()) = some (if rnd (x * 4294967296) y < 18446744073709551616 then (rnd (x * 4294967296) y, true, ()) else (0, false, ())) := by
  unfold law131
  have L := fun k0 k1 => bits_loop (β := Int × Bool × Unit) x y k0 k1 (fun n q r i => law131o0 N (x, y, ()) k0 k1 n q r i) hx.1 hy (fun n q r => by
    conv => lhs; unfold law131o0
    rfl) (fun n q r i hi => by
    conv => lhs; unfold law131o0
    rw [decide_eq_true (show (i : Int) ≥ 0 by omega)]
    have w : IntKind.i64.wrap ((i : Int) - 1) = (i : Int) - 1 := i64_in _ (by omega)
    by_cases c : 32 ≤ i
    · have b := bit63 x i hx c hi
      have b' : (Int.fdiv x (2 ^ min (IntKind.u64.wrap (IntKind.i64.wrap ((i : Int) - 32))).toNat IntKind.u64.bits)).tmod 2 = x * 4294967296 / 2 ^ i % 2 := b
      rw [decide_eq_true (show (i : Int) ≥ 32 by omega), decide_eq_true (u64r _).1]
      simp only [cond_true, b, b', w]
    · have b := low63 x i (by omega)
      rw [decide_eq_false (show ¬ (i : Int) ≥ 32 by omega), b]
      simp only [cond_true, cond_false, w]) 96 N 0 0 (by omega) (by omega) (by
        rw [Int.zero_mul, Int.zero_add]
        exact Int.ediv_eq_zero_of_lt (by omega) (by
          have : (2 : Int) ^ 96 = 79228162514264337593543950336 := by decide
          omega)) (by omega) (by omega) (by omega) (by omega)
  have e95 : (((96 : Nat) : Int) - 1) = 95 := by decide
  rw [e95] at L
  refine (L _ _).trans ?_
  obtain ⟨q1, q2, q3⟩ := qr (x * 4294967296) hy.1
  have q4 : 0 ≤ x * 4294967296 / y := Int.ediv_nonneg (by omega) (by omega)
  unfold rnd
  generalize x * 4294967296 / y = Q at *
  generalize x * 4294967296 % y = R at *
  have w1 : IntKind.u64.wrap (y - R) = y - R := u64in _ (by omega)
  have w2 : Q.tmod 2 = Q % 2 := Int.tmod_eq_emod_of_nonneg q4
  simp only [w1, w2]
  by_cases c : Q < 18446744073709551616
  · rw [if_pos c]
    have up : (bif IntKind.u64.wrap (Q + 1) == 0 then some ((0, false, ())) else some ((IntKind.u64.wrap (Q + 1), true, ()))) = (some (if Q + 1 < 18446744073709551616 then (Q + 1, true, ()) else (0, false, ())) : Option (Int × Bool × Unit)) := by
      by_cases c1 : Q = 18446744073709551615
      · subst c1; rfl
      · have e : IntKind.u64.wrap (Q + 1) = Q + 1 := u64in _ (by omega)
        have e2 : (Q + 1 == 0) = false := by simp; omega
        rw [e, e2, if_pos (by omega)]; rfl
    rw [up]
    by_cases c1 : R > y - R
    · rw [decide_eq_true c1, if_pos (show R * 2 > y ∨ (R * 2 = y ∧ Q % 2 = 1) by omega)]; rfl
    · rw [decide_eq_false c1]
      by_cases c2 : R = y - R
      · have e : (R == y - R) = true := by simpa using c2
        rw [e]
        by_cases c3 : Q % 2 = 1
        · have e3 : (Q % 2 == 1) = true := by simpa using c3
          rw [e3, if_pos (show R * 2 > y ∨ (R * 2 = y ∧ Q % 2 = 1) by omega)]; rfl
        · have e3 : (Q % 2 == 1) = false := by simpa using c3
          rw [e3, if_neg (show ¬ (R * 2 > y ∨ (R * 2 = y ∧ Q % 2 = 1)) by omega), if_pos c]; rfl
      · have e : (R == y - R) = false := by simpa using c2
        rw [e, if_neg (show ¬ (R * 2 > y ∨ (R * 2 = y ∧ Q % 2 = 1)) by omega), if_pos c]; rfl
  · rw [if_neg c, if_neg (by split <;> omega)]
theorem over63 (x : Int × Int × Unit) (hx : 0 ≤ x.1 ∧ x.1 ≤ 9223372036854775808) (hy : 0 < x.2.1 ∧ x.2.1 ≤ 9223372036854775808) : fn131 x = some (if rnd (x.1 * 4294967296) x.2.1 < 18446744073709551616 then (rnd (x.1 * 4294967296) x.2.1, true, ()) else (0, false, ())) := lx131 _ (by decide) x.1 x.2.1 hx hy
theorem div_sizes (a b : Int) (hb : b ≠ 0) : divV a b = if (!(decide (a < 0) == decide (b < 0))) = true then -rnd (absV a * 4294967296) (absV b) else rnd (absV a * 4294967296) (absV b) := by
  unfold divV absV
  by_cases h1 : a < 0 <;> by_cases h2 : b < 0 <;> simp [h1, h2, Int.neg_mul]
  · rw [← Int.neg_mul, ← rnd_neg _ (by omega), Int.neg_mul, Int.neg_neg]
  · rw [rnd_neg _ (by omega)]
theorem absV_r {a : Int} (h : I64 a) : 0 ≤ absV a ∧ absV a ≤ 9223372036854775808 := by unfold I64 at h; unfold absV; split <;> omega
theorem absV_pos {a : Int} (h : a ≠ 0) : 0 < absV a := by unfold absV; split <;> omega
theorem div42 (m : Mx1T) (x : Int × Int × Unit) (ha : I64 x.1) (hb : I64 x.2.1) : fn80 m x = some (res (divS m.1 x.1 x.2.1)) := by
  obtain ⟨a, b, u⟩ := x
  have ha : I64 a := ha
  have hb : I64 b := hb
  unfold fn80 law80 divS
  simp only
  by_cases c : b = 0
  · subst c
    rw [if_pos rfl]
    by_cases c0 : a = 0
    · subst c0; rfl
    · have e : (a == 0) = false := by simpa using c0
      rw [e, if_neg c0, bindSome (bound43 _ _)]
      by_cases c1 : a < 0
      · rw [decide_eq_true c1, if_pos c1]; rfl
      · rw [decide_eq_false c1, if_neg c1]; rfl
  · have e : (b == 0) = false := by simpa using c
    rw [e, if_neg c, bindSome (size44 (a, ()) ha), bindSome (size44 (b, u) hb), bindSome (over63 (absV a, absV b, ()) (absV_r ha) ⟨absV_pos c, (absV_r hb).2⟩)]
    rw [div_sizes a b c]
    have hr : 0 ≤ rnd (absV a * 4294967296) (absV b) := rnd_nonneg (absV_pos c) (by have := absV_r ha; omega)
    simp only [cond_false]
    generalize rnd (absV a * 4294967296) (absV b) = q at *
    generalize (!(decide (a < 0) == decide (b < 0))) = neg
    by_cases hq : q < 18446744073709551616
    · rw [if_pos hq]
      simp only [Bool.not_true, cond_false]
      exact (bindSome (signed45 m (neg, q, ()) ⟨hr, hq⟩)).trans rfl
    · rw [if_neg hq]
      simp only [Bool.not_false, cond_true]
      exact (bindSome ((bound43 m (neg, ())).trans (far43 m neg q (by omega)))).trans rfl
theorem stepR {R : Option (Mx1T × (Int × Unit))} {G : Option (Mx1T × (Int × Unit))} {H : Int → Option (Mx1T × (Int × Unit))} (p q T : Int) (hp : 0 ≤ p ∧ p < 18446744073709551616) (hq : 0 ≤ q ∧ q < 18446744073709551616) (hT : p + q ≤ T) (hG : T > 9223372036854775808 → G = R) (hH : p + q < 18446744073709551616 → H (p + q) = R) : (bif decide (IntKind.u64.wrap (p + q) < p) then G else H (IntKind.u64.wrap (p + q))) = R := by
  by_cases c : p + q < 18446744073709551616
  · rw [u64in _ (by omega), decide_eq_false (by omega)]
    exact hH c
  · have : IntKind.u64.wrap (p + q) < p := by rw [u64m]; omega
    rw [decide_eq_true this]
    exact hG (by omega)
noncomputable def K23a (w57 : Int) (w58 : Bool) : Option (Mx1T × (Int × Unit)) := some ((w58, ()), w57, ())
noncomputable def K23b (m : Mx1T) (a b : Int) (w59 : Int) : Option (Mx1T × (Int × Unit)) := Option.bind (fn85 m (!(decide (a < 0) == decide (b < 0)), w59, ())) fun v60 => some (((v60.1.1, ()), v60.2.1, ()))
theorem s23o0 (Q : Nat) (m : Mx1T) (a b A B p : Int) (K0 : Int → Bool → Option (Mx1T × (Int × Unit))) (K1 : Int → Option (Mx1T × (Int × Unit))) (n : Nat) : law27o0 Q m (a, b, ()) (A, ()) (B, ()) K0 K1 (n + 1) p 0 = bif decide (IntKind.u64.wrap (p + IntKind.u64.wrap (IntKind.u64.wrap (A.tdiv 4294967296) * B.tmod 4294967296)) < p) then Option.bind (fn84 m (!(decide (a < 0) == decide (b < 0)), ())) (fun v => K0 v.2.1 v.1.1) else law27o0 Q m (a, b, ()) (A, ()) (B, ()) K0 K1 n (IntKind.u64.wrap (p + IntKind.u64.wrap (IntKind.u64.wrap (A.tdiv 4294967296) * B.tmod 4294967296))) 1 := by
  conv => lhs; unfold law27o0
  rfl
theorem s23o1 (Q : Nat) (m : Mx1T) (a b A B p : Int) (K0 : Int → Bool → Option (Mx1T × (Int × Unit))) (K1 : Int → Option (Mx1T × (Int × Unit))) (n : Nat) : law27o0 Q m (a, b, ()) (A, ()) (B, ()) K0 K1 (n + 1) p 1 = bif decide (IntKind.u64.wrap (p + IntKind.u64.wrap (A.tmod 4294967296 * IntKind.u64.wrap (B.tdiv 4294967296))) < p) then Option.bind (fn84 m (!(decide (a < 0) == decide (b < 0)), ())) (fun v => K0 v.2.1 v.1.1) else law27o0 Q m (a, b, ()) (A, ()) (B, ()) K0 K1 n (IntKind.u64.wrap (p + IntKind.u64.wrap (A.tmod 4294967296 * IntKind.u64.wrap (B.tdiv 4294967296)))) 2 := by
  conv => lhs; unfold law27o0
  rfl
theorem s23o2 (Q : Nat) (m : Mx1T) (a b A B p : Int) (K0 : Int → Bool → Option (Mx1T × (Int × Unit))) (K1 : Int → Option (Mx1T × (Int × Unit))) (n : Nat) : law27o0 Q m (a, b, ()) (A, ()) (B, ()) K0 K1 (n + 1) p 2 = bif decide (IntKind.u64.wrap (p + IntKind.u64.wrap ((IntKind.u64.wrap (A.tmod 4294967296 * B.tmod 4294967296)).tdiv 4294967296)) < p) then Option.bind (fn84 m (!(decide (a < 0) == decide (b < 0)), ())) (fun v => K0 v.2.1 v.1.1) else law27o0 Q m (a, b, ()) (A, ()) (B, ()) K0 K1 n (IntKind.u64.wrap (p + IntKind.u64.wrap ((IntKind.u64.wrap (A.tmod 4294967296 * B.tmod 4294967296)).tdiv 4294967296))) 3 := by
  conv => lhs; unfold law27o0
  rfl
theorem s23o3 (Q : Nat) (m : Mx1T) (a b A B p : Int) (K0 : Int → Bool → Option (Mx1T × (Int × Unit))) (K1 : Int → Option (Mx1T × (Int × Unit))) (n : Nat) : law27o0 Q m (a, b, ()) (A, ()) (B, ()) K0 K1 (n + 1) p 3 = (bif decide ((IntKind.u64.wrap (A.tmod 4294967296 * B.tmod 4294967296)).tmod 4294967296 > 2147483648) then (bif decide (IntKind.u64.wrap (p + 1) < p) then Option.bind (fn84 m (!(decide (a < 0) == decide (b < 0)), ())) (fun v => K0 v.2.1 v.1.1) else law27o0 Q m (a, b, ()) (A, ()) (B, ()) K0 K1 n (IntKind.u64.wrap (p + 1)) 4) else (bif (IntKind.u64.wrap (A.tmod 4294967296 * B.tmod 4294967296)).tmod 4294967296 == 2147483648 then (bif p.tmod 2 == 1 then (bif decide (IntKind.u64.wrap (p + 1) < p) then Option.bind (fn84 m (!(decide (a < 0) == decide (b < 0)), ())) (fun v => K0 v.2.1 v.1.1) else law27o0 Q m (a, b, ()) (A, ()) (B, ()) K0 K1 n (IntKind.u64.wrap (p + 1)) 4) else (bif decide (IntKind.u64.wrap (p + 0) < p) then Option.bind (fn84 m (!(decide (a < 0) == decide (b < 0)), ())) (fun v => K0 v.2.1 v.1.1) else law27o0 Q m (a, b, ()) (A, ()) (B, ()) K0 K1 n (IntKind.u64.wrap (p + 0)) 4)) else (bif decide (IntKind.u64.wrap (p + 0) < p) then Option.bind (fn84 m (!(decide (a < 0) == decide (b < 0)), ())) (fun v => K0 v.2.1 v.1.1) else law27o0 Q m (a, b, ()) (A, ()) (B, ()) K0 K1 n (IntKind.u64.wrap (p + 0)) 4))) := by
  conv => lhs; unfold law27o0
  rfl
theorem s23o4 (Q : Nat) (m : Mx1T) (a b A B p : Int) (K0 : Int → Bool → Option (Mx1T × (Int × Unit))) (K1 : Int → Option (Mx1T × (Int × Unit))) (n : Nat) : law27o0 Q m (a, b, ()) (A, ()) (B, ()) K0 K1 (n + 1) p 4 = K1 p := by
  conv => lhs; unfold law27o0
  rfl
theorem loop23 (Q M : Nat) (m : Mx1T) (a b A B X Y W V T : Int) (t1 : A.tdiv 4294967296 = A / 4294967296) (t2 : B.tdiv 4294967296 = B / 4294967296) (t3 : A.tmod 4294967296 = A % 4294967296) (t4 : B.tmod 4294967296 = B % 4294967296) (u1 : IntKind.u64.wrap (A / 4294967296) = A / 4294967296) (u2 : IntKind.u64.wrap (B / 4294967296) = B / 4294967296) (hY : A / 4294967296 * (B % 4294967296) = Y) (hW : A % 4294967296 * (B / 4294967296) = W) (hV : A % 4294967296 * (B % 4294967296) = V) (b1 : 0 ≤ X ∧ X < 4294967296) (b2 : 0 ≤ Y ∧ Y ≤ 18446744065119617025) (b3 : 0 ≤ W ∧ W ≤ 18446744065119617025) (b4 : 0 ≤ V ∧ V ≤ 18446744065119617025) (hr : T = if V % 4294967296 * 2 > 4294967296 ∨ (V % 4294967296 * 2 = 4294967296 ∧ (X * 4294967296 + Y + W + V / 4294967296) % 2 = 1) then X * 4294967296 + Y + W + V / 4294967296 + 1 else X * 4294967296 + Y + W + V / 4294967296) : law27o0 Q m (a, b, ()) (A, ()) (B, ()) K23a (K23b m a b) (M + 5) (X * 4294967296) 0 = some (res (satS m.1 (if (!(decide (a < 0) == decide (b < 0))) = true then -T else T))) := by
  have hG : ∀ T : Int, T > 9223372036854775808 → Option.bind (fn84 m (!(decide (a < 0) == decide (b < 0)), ())) (fun v => K23a v.2.1 v.1.1) = some (res (satS m.1 (if (!(decide (a < 0) == decide (b < 0))) = true then -T else T))) := fun T hT => by
    rw [bindSome (bound43 m ((!(decide (a < 0) == decide (b < 0))), ()))]
    exact far43 m (!(decide (a < 0) == decide (b < 0))) T hT
  have hT : T ≥ X * 4294967296 + Y + W + V / 4294967296 := by rw [hr]; split <;> omega
  have w2 : IntKind.u64.wrap Y = Y := u64in _ (by omega)
  have w3 : IntKind.u64.wrap W = W := u64in _ (by omega)
  have w4 : IntKind.u64.wrap V = V := u64in _ (by omega)
  have w5 : V.tdiv 4294967296 = V / 4294967296 := Int.tdiv_eq_ediv_of_nonneg b4.1
  have w6 : V.tmod 4294967296 = V % 4294967296 := Int.tmod_eq_emod_of_nonneg b4.1
  have w7 : IntKind.u64.wrap (V / 4294967296) = V / 4294967296 := u64in _ (by omega)
  rw [s23o0, t1, t4, u1, hY, w2]
  refine stepR (H := fun z => law27o0 Q m (a, b, ()) (A, ()) (B, ()) K23a (K23b m a b) (M + 4) z 1) (X * 4294967296) Y T (by omega) (by omega) (by omega) (fun h => hG T h) fun h1 => ?_
  show law27o0 Q m (a, b, ()) (A, ()) (B, ()) K23a (K23b m a b) (M + 4) (X * 4294967296 + Y) 1 = _
  rw [s23o1, t2, t3, u2, hW, w3]
  refine stepR (H := fun z => law27o0 Q m (a, b, ()) (A, ()) (B, ()) K23a (K23b m a b) (M + 3) z 2) (X * 4294967296 + Y) W T (by omega) (by omega) (by omega) (fun h => hG T h) fun h2 => ?_
  show law27o0 Q m (a, b, ()) (A, ()) (B, ()) K23a (K23b m a b) (M + 3) (X * 4294967296 + Y + W) 2 = _
  rw [s23o2, t3, t4, hV, w4, w5, w7]
  refine stepR (H := fun z => law27o0 Q m (a, b, ()) (A, ()) (B, ()) K23a (K23b m a b) (M + 2) z 3) (X * 4294967296 + Y + W) (V / 4294967296) T (by omega) (by omega) (by omega) (fun h => hG T h) fun h3 => ?_
  show law27o0 Q m (a, b, ()) (A, ()) (B, ()) K23a (K23b m a b) (M + 2) (X * 4294967296 + Y + W + V / 4294967296) 3 = _
  have hS : 0 ≤ X * 4294967296 + Y + W + V / 4294967296 := by omega
  generalize X * 4294967296 + Y + W + V / 4294967296 = S at *
  have fin : ∀ z : Int, 0 ≤ z → z < 18446744073709551616 → z = T → law27o0 Q m (a, b, ()) (A, ()) (B, ()) K23a (K23b m a b) (M + 1) z 4 = some (res (satS m.1 (if (!(decide (a < 0) == decide (b < 0))) = true then -T else T))) := fun z z0 z1 zT => by
    rw [s23o4]
    unfold K23b
    rw [← zT]
    exact (bindSome (signed45 m ((!(decide (a < 0) == decide (b < 0))), z, ()) ⟨z0, z1⟩)).trans rfl
  rw [s23o3, t3, t4, hV, w4, w6, show S.tmod 2 = S % 2 from Int.tmod_eq_emod_of_nonneg hS]
  by_cases c1 : V % 4294967296 > 2147483648
  · rw [decide_eq_true c1, cond_true]
    rw [if_pos (show V % 4294967296 * 2 > 4294967296 ∨ (V % 4294967296 * 2 = 4294967296 ∧ S % 2 = 1) by omega)] at hr
    refine stepR (H := fun z => law27o0 Q m (a, b, ()) (A, ()) (B, ()) K23a (K23b m a b) (M + 1) z 4) S 1 T (by omega) (by omega) (by omega) (fun h => hG T h) fun h4 => fin (S + 1) (by omega) h4 hr.symm
  · rw [decide_eq_false c1, cond_false]
    by_cases c2 : V % 4294967296 = 2147483648
    · have e : (V % 4294967296 == 2147483648) = true := by simpa using c2
      rw [e, cond_true]
      by_cases c3 : S % 2 = 1
      · have e3 : (S % 2 == 1) = true := by simpa using c3
        rw [e3, cond_true]
        rw [if_pos (show V % 4294967296 * 2 > 4294967296 ∨ (V % 4294967296 * 2 = 4294967296 ∧ S % 2 = 1) by omega)] at hr
        refine stepR (H := fun z => law27o0 Q m (a, b, ()) (A, ()) (B, ()) K23a (K23b m a b) (M + 1) z 4) S 1 T (by omega) (by omega) (by omega) (fun h => hG T h) fun h4 => fin (S + 1) (by omega) h4 hr.symm
      · have e3 : (S % 2 == 1) = false := by simpa using c3
        rw [e3, cond_false]
        rw [if_neg (show ¬ (V % 4294967296 * 2 > 4294967296 ∨ (V % 4294967296 * 2 = 4294967296 ∧ S % 2 = 1)) by omega)] at hr
        refine stepR (H := fun z => law27o0 Q m (a, b, ()) (A, ()) (B, ()) K23a (K23b m a b) (M + 1) z 4) S 0 T (by omega) (by omega) (by omega) (fun h => hG T h) fun h4 => fin (S + 0) (by omega) h4 (by omega)
    · have e : (V % 4294967296 == 2147483648) = false := by simpa using c2
      rw [e, cond_false]
      rw [if_neg (show ¬ (V % 4294967296 * 2 > 4294967296 ∨ (V % 4294967296 * 2 = 4294967296 ∧ S % 2 = 1)) by omega)] at hr
      refine stepR (H := fun z => law27o0 Q m (a, b, ()) (A, ()) (B, ()) K23a (K23b m a b) (M + 1) z 4) S 0 T (by omega) (by omega) (by omega) (fun h => hG T h) fun h4 => fin (S + 0) (by omega) h4 (by omega)
theorem lx27 (N : Nat) (hN : 5 ≤ N) (m : Mx1T) (a b : Int) (ha : I64 a) (hb : I64 b) : law27 N m (a, b, ()) = some (res (mulS m.1 a b)) := by
  unfold law27
  rw [bindSome (size44 (a, ()) ha), bindSome (size44 (b, ()) hb)]
  have hA := absV_r ha
  have hB := absV_r hb
  have hv : mulV a b = if (!(decide (a < 0) == decide (b < 0))) = true then -rnd (absV a * absV b) 4294967296 else rnd (absV a * absV b) 4294967296 := by
    unfold mulV absV
    by_cases h1 : a < 0 <;> by_cases h2 : b < 0 <;> simp [h1, h2, Int.neg_mul, Int.mul_neg]
    · rw [rnd_neg _ (by decide), Int.neg_neg]
    · rw [rnd_neg _ (by decide), Int.neg_neg]
  unfold mulS
  rw [hv]
  simp only
  generalize absV a = A at *
  generalize absV b = B at *
  have t1 : A.tdiv 4294967296 = A / 4294967296 := Int.tdiv_eq_ediv_of_nonneg hA.1
  have t2 : B.tdiv 4294967296 = B / 4294967296 := Int.tdiv_eq_ediv_of_nonneg hB.1
  have t3 : A.tmod 4294967296 = A % 4294967296 := Int.tmod_eq_emod_of_nonneg hA.1
  have t4 : B.tmod 4294967296 = B % 4294967296 := Int.tmod_eq_emod_of_nonneg hB.1
  have hP : A * B = A / 4294967296 * (B / 4294967296) * 18446744073709551616 + (A / 4294967296 * (B % 4294967296) + A % 4294967296 * (B / 4294967296)) * 4294967296 + A % 4294967296 * (B % 4294967296) := by
    rw [← split_mul, Int.mul_comm _ 4294967296, Int.mul_comm _ 4294967296, Int.mul_ediv_add_emod, Int.mul_ediv_add_emod]
  have b1 := prod_bound (A / 4294967296) (B / 4294967296) (by omega) (by omega) (by omega) (by omega)
  have b2 := prod_bound (A / 4294967296) (B % 4294967296) (by omega) (by omega) (by omega) (by omega)
  have b3 := prod_bound (A % 4294967296) (B / 4294967296) (by omega) (by omega) (by omega) (by omega)
  have b4 := prod_bound (A % 4294967296) (B % 4294967296) (by omega) (by omega) (by omega) (by omega)
  have u1 : IntKind.u64.wrap (A / 4294967296) = A / 4294967296 := u64in _ (by omega)
  have u2 : IntKind.u64.wrap (B / 4294967296) = B / 4294967296 := u64in _ (by omega)
  -- the steps, as the code writes them
  have hG : ∀ T : Int, T > 9223372036854775808 → Option.bind (fn84 m (!(decide (a < 0) == decide (b < 0)), ())) (fun v => some (((v.1.1, ()), v.2.1, ()) : Mx1T × (Int × Unit))) = some (res (satS m.1 (if (!(decide (a < 0) == decide (b < 0))) = true then -T else T))) := fun T hT => by
    rw [bindSome (bound43 m ((!(decide (a < 0) == decide (b < 0))), ()))]
    exact far43 m (!(decide (a < 0) == decide (b < 0))) T hT
  rw [t1, t2, u1, u2, u64in (A / 4294967296 * (B / 4294967296)) (by omega)]
  by_cases cX : A / 4294967296 * (B / 4294967296) ≥ 4294967296
  · rw [decide_eq_true cX]
    have hT : rnd (A * B) 4294967296 > 9223372036854775808 := by
      have : 18446744073709551616 ≤ rnd (A * B) 4294967296 := le_rnd (by decide) (by rw [hP]; omega)
      omega
    exact hG _ hT
  rw [decide_eq_false cX, cond_false, u64in (A / 4294967296 * (B / 4294967296) * 4294967296) (by omega)]
  have hr : rnd (A * B) 4294967296 = if A % 4294967296 * (B % 4294967296) % 4294967296 * 2 > 4294967296 ∨ (A % 4294967296 * (B % 4294967296) % 4294967296 * 2 = 4294967296 ∧ (A / 4294967296 * (B / 4294967296) * 4294967296 + A / 4294967296 * (B % 4294967296) + A % 4294967296 * (B / 4294967296) + A % 4294967296 * (B % 4294967296) / 4294967296) % 2 = 1) then A / 4294967296 * (B / 4294967296) * 4294967296 + A / 4294967296 * (B % 4294967296) + A % 4294967296 * (B / 4294967296) + A % 4294967296 * (B % 4294967296) / 4294967296 + 1 else A / 4294967296 * (B / 4294967296) * 4294967296 + A / 4294967296 * (B % 4294967296) + A % 4294967296 * (B / 4294967296) + A % 4294967296 * (B % 4294967296) / 4294967296 :=
    rnd_of (by decide) (by rw [hP]; omega) (by omega) (by omega)
  obtain ⟨M, rfl⟩ : ∃ M, N = M + 5 := ⟨N - 5, by omega⟩
  refine loop23 _ M m a b A B _ _ _ _ (rnd (A * B) 4294967296) t1 t2 t3 t4 u1 u2 rfl rfl rfl ⟨b1.1, by omega⟩ b2 b3 b4 hr
theorem mul23 (m : Mx1T) (x : Int × Int × Unit) (ha : I64 x.1) (hb : I64 x.2.1) : fn27 m x = some (res (mulS m.1 x.1 x.2.1)) := lx27 _ (by decide) m x.1 x.2.1 ha hb
end Go.Proofs.YtkobnmpilcpojaaGreat
