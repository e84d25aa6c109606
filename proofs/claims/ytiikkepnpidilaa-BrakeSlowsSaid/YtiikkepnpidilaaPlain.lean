/- Of fx: differences and sizes are what they are, or a bound; products and quotients are told; a wheel that is slowed never turns round: in plain numbers. -/
import Derived.Test.YtiikkepnpidilaaLaws
import Derived.IntWalk
import Derived.Laws.Bits64
import Derived.Laws.BitsLemmas
set_option linter.unusedVariables false
set_option linter.unusedSimpArgs false
set_option maxRecDepth 100000
namespace Go.Proofs.Ytiikkepnpidilaa
open Go Go.Ab Go.Proofs Go.IntWalk
theorem u64r (a : Int) : 0 ≤ IntKind.u64.wrap a ∧ IntKind.u64.wrap a < 18446744073709551616 := by rw [IntKind.wrap_u64]; omega
theorem i64r (a : Int) : -9223372036854775808 ≤ IntKind.i64.wrap a ∧ IntKind.i64.wrap a ≤ 9223372036854775807 := by rw [IntKind.wrap_i64]; omega
theorem nmr (n : Nat) : 0 ≤ ((n % 18446744073709551616 : Nat) : Int) ∧ ((n % 18446744073709551616 : Nat) : Int) < 18446744073709551616 := by omega
theorem bcase {α : Type} (c : Bool) (p q : α) {R : α → Prop} (hp : c = true → R p) (hq : c = false → R q) : R (bif c then p else q) := by
  cases c
  · exact hq rfl
  · exact hp rfl
theorem min63 : (2 : Int) ^ min (Int.toNat 63) 64 = 9223372036854775808 := by decide
theorem min32 : (2 : Int) ^ min (Int.toNat 32) 64 = 4294967296 := by decide
/-- A wide sum is told. -/
theorem tot33 (a b c d : Int) (hb : 0 ≤ b ∧ b < 18446744073709551616) (hd : 0 ≤ d ∧ d < 18446744073709551616) : ∃ r, fn33 ((a, b, ()), (c, d, ()), ()) = some r := by
  unfold fn33 law33 fn61 add64Law
  simp only
  have h1 : decide (Int.toNat (((Int.toNat b + Int.toNat d + Int.toNat 0) / 18446744073709551616 : Nat) : Int) ≤ 1) = true := by
    simp only [decide_eq_true_eq]; omega
  rw [h1]
  simp only [cond_true, Option.bind_some]
  refine bcase (R := fun z => ∃ r, z = some r) _ _ _ (fun _ => ?_) (fun _ => ⟨_, rfl⟩)
  exact bcase (R := fun z => ∃ r, z = some r) _ _ _ (fun _ => ⟨_, rfl⟩) (fun _ => ⟨_, rfl⟩)
theorem tot35 (m : MSh.T) (x : Sh.Ts [.bool]) : ∃ (m' : MSh.T) (r : Int), fn35 m x = some (m', r, ()) ∧ -9223372036854775808 ≤ (r : Int) ∧ (r : Int) ≤ 9223372036854775807 := by
  unfold fn35 law35
  refine bcase (R := fun z => ∃ (m' : MSh.T) (r : Int), z = some (m', r, ()) ∧ -9223372036854775808 ≤ (r : Int) ∧ (r : Int) ≤ 9223372036854775807) _ _ _ (fun _ => ⟨_, _, rfl, ?_⟩) (fun _ => ⟨_, _, rfl, ?_⟩) <;> constructor <;> decide
/-- What a reckoning comes to: an answer, and it fits. -/
def R (z : Option (MSh.T × Sh.Ts [Sh.int IntKind.i64])) : Prop := ∃ (m' : MSh.T) (r : Int), z = some (m', r, ()) ∧ -9223372036854775808 ≤ (r : Int) ∧ (r : Int) ≤ 9223372036854775807
theorem R_some {m' : MSh.T} {r : Int} (h : -9223372036854775808 ≤ r ∧ r ≤ 9223372036854775807) : R (some (m', r, ())) := ⟨_, _, rfl, h⟩
theorem R_cond {c : Bool} {p q : Option (MSh.T × Sh.Ts [Sh.int IntKind.i64])} (hp : R p) (hq : R q) : R (bif c then p else q) := by cases c <;> assumption
theorem R_bind33 {a b c d : Int} {f : Sh.Ts [IntSh, Sh.bool] → Option (MSh.T × Sh.Ts [Sh.int IntKind.i64])} (hb : 0 ≤ b ∧ b < 18446744073709551616) (hd : 0 ≤ d ∧ d < 18446744073709551616) (h : ∀ v, R (f v)) : R (Option.bind (fn33 ((a, b, ()), (c, d, ()), ())) f) := by
  obtain ⟨r, hr⟩ := tot33 a b c d hb hd
  rw [hr]; exact h r
theorem R_bind35 {m : MSh.T} {x : Sh.Ts [.bool]} {f : MSh.T × Sh.Ts [Sh.int IntKind.i64] → Option (MSh.T × Sh.Ts [Sh.int IntKind.i64])} (h : ∀ m' r, -9223372036854775808 ≤ (r : Int) ∧ (r : Int) ≤ 9223372036854775807 → R (f (m', r, ()))) : R (Option.bind (fn35 m x) f) := by
  obtain ⟨m', r, hr, h1⟩ := tot35 m x
  rw [hr]; exact h m' r h1
theorem tot39 (x : Sh.Ts [Sh.int IntKind.i64, Sh.int IntKind.i64]) : ∃ a b, fn39 x = some ((a, b, ()), ()) ∧ 0 ≤ (b : Int) ∧ (b : Int) < 18446744073709551616 := by
  unfold fn39 law39
  have two : ∀ (c : Bool) (p q : Option (Sh.Ts [IntSh])), (∃ a b, p = some ((a, b, ()), ()) ∧ 0 ≤ (b : Int) ∧ (b : Int) < 18446744073709551616) → (∃ a b, q = some ((a, b, ()), ()) ∧ 0 ≤ (b : Int) ∧ (b : Int) < 18446744073709551616) → ∃ a b, (bif c then p else q) = some ((a, b, ()), ()) ∧ 0 ≤ (b : Int) ∧ (b : Int) < 18446744073709551616 := fun c p q hp hq => by cases c <;> assumption
  repeat' (first | exact ⟨_, _, rfl, u64r _⟩ | refine two _ _ _ ?_ ?_)
theorem tot20 (m : MSh.T) (x : Sh.Ts [Sh.int IntKind.i64, Sh.int IntKind.i64]) : R (fn20 m x) := by
  unfold fn20 law20
  obtain ⟨a, b, h, hb⟩ := tot39 x
  rw [h]
  simp only [Option.bind_some]
  repeat' (first | exact R_some (i64r _) | exact R_some (by assumption) | refine R_cond ?_ ?_ | (refine R_bind33 (u64r _) (u64r _) fun _ => ?_) | (refine R_bind35 fun _ _ _ => ?_))
theorem fd63 (a : Int) : Int.fdiv a (2 ^ min (Int.toNat 63) 64) = a / 9223372036854775808 := by
  rw [min63, Int.fdiv_eq_ediv_of_nonneg _ (by omega)]
/-- The opposite of a number, made wide. -/
theorem neg31 (b : Int) (hb : -9223372036854775808 ≤ b ∧ b ≤ 9223372036854775807) : ∃ (c d : Int) (t : Bool), fn31 ((b / 9223372036854775808, b % 18446744073709551616, ()), ()) = some ((c, d, ()), t, ()) ∧ 0 ≤ (d : Int) ∧ (d : Int) < 18446744073709551616 ∧ (c : Int) * 18446744073709551616 + d = -b := by
  unfold fn31 law31 fn60 sub64Law
  simp only
  have h1 : decide (Int.toNat (if Int.toNat 0 < Int.toNat (b % 18446744073709551616) + Int.toNat 0 then 1 else 0) ≤ 1) = true := by
    simp only [decide_eq_true_eq]; split <;> decide
  rw [h1]
  simp only [cond_true, Option.bind_some]
  have key : ∀ (z : Nat) (q : Int), z ≤ 1 → (z = 1 ↔ 0 < b % 18446744073709551616) → q = IntKind.i64.wrap ((((Int.toNat 0 + 18446744073709551616 - (IntKind.u64.wrap (b / 9223372036854775808)).toNat - z) % 18446744073709551616 : Nat) : Int)) → (¬ (b / 9223372036854775808 < 0 ∧ q < 0)) ∧ q * 18446744073709551616 + ((((Int.toNat 0 + 18446744073709551616 - (b % 18446744073709551616).toNat - Int.toNat 0) % 18446744073709551616 : Nat)) : Int) = -b := by
    intro z q hz hz1 hq
    rw [IntKind.wrap_u64, IntKind.wrap_i64] at hq
    simp only [Int.toNat_zero] at *
    have hcase : b = 0 ∨ 0 < b ∨ b < 0 := by omega
    rcases hcase with h0 | h0 | h0
    · subst h0
      have : z = 0 := by omega
      subst this; subst hq; decide
    · have e1 : b / 9223372036854775808 = 0 := by omega
      have e2 : b % 18446744073709551616 = b := by omega
      rw [e1] at hq ⊢
      rw [e2] at hz1 ⊢
      have : z = 1 := by omega
      subst this
      have : q = -1 := by rw [hq]; decide
      subst this
      omega
    · have e1 : b / 9223372036854775808 = -1 := by omega
      have e2 : b % 18446744073709551616 = b + 18446744073709551616 := by omega
      rw [e1] at hq ⊢
      rw [e2] at hz1 ⊢
      have : z = 1 := by omega
      subst this
      have : q = 0 := by rw [hq]; decide
      subst this
      omega
  generalize hz : Int.toNat (if Int.toNat 0 < Int.toNat (b % 18446744073709551616) + Int.toNat 0 then 1 else 0) = z
  have hz1 : z ≤ 1 ∧ (z = 1 ↔ 0 < b % 18446744073709551616) := by
    rw [← hz]
    split
    · simp; omega
    · simp; omega
  obtain ⟨k1, k2⟩ := key z _ hz1.1 hz1.2 rfl
  by_cases h2 : b / 9223372036854775808 < 0
  · simp only [h2, decide_true, cond_true]
    have h3 : ¬ (IntKind.i64.wrap ((((Int.toNat 0 + 18446744073709551616 - (IntKind.u64.wrap (b / 9223372036854775808)).toNat - z) % 18446744073709551616 : Nat) : Int)) < 0) := fun h => k1 ⟨h2, h⟩
    simp only [h3, decide_false, cond_false]
    exact ⟨_, _, _, rfl, (nmr _).1, (nmr _).2, k2⟩
  · simp only [h2, decide_false, cond_false]
    exact ⟨_, _, _, rfl, (nmr _).1, (nmr _).2, k2⟩
/-- A wide sum of a number and what is no greater than the bounds. -/
theorem add33 (a c d v : Int) (ha : -9223372036854775808 ≤ a ∧ a ≤ 9223372036854775807) (hd : 0 ≤ d ∧ d < 18446744073709551616) (hv : c * 18446744073709551616 + d = v) (hv2 : -9223372036854775808 ≤ v ∧ v ≤ 9223372036854775808) : ∃ (e f : Int) (t : Bool), fn33 ((a / 9223372036854775808, a % 18446744073709551616, ()), (c, d, ()), ()) = some ((e, f, ()), t, ()) ∧ 0 ≤ (f : Int) ∧ (f : Int) < 18446744073709551616 ∧ (e : Int) * 18446744073709551616 + f = a + v := by
  unfold fn33 law33 fn61 add64Law
  simp only
  have hc : c = 0 ∨ c = -1 := by omega
  have hk : ∃ k : Nat, (Int.toNat (a % 18446744073709551616) + Int.toNat d + Int.toNat 0) / 18446744073709551616 = k ∧ k ≤ 1 ∧ ((a % 18446744073709551616 + d < 18446744073709551616 ∧ k = 0) ∨ (a % 18446744073709551616 + d ≥ 18446744073709551616 ∧ k = 1)) := ⟨_, rfl, by simp only [Int.toNat_zero]; omega, by simp only [Int.toNat_zero]; omega⟩
  obtain ⟨k, hk1, hk2, hk3⟩ := hk
  rw [hk1]
  have h1 : decide (Int.toNat ((k : Nat) : Int) ≤ 1) = true := by simp only [decide_eq_true_eq]; omega
  rw [h1]
  simp only [cond_true, Option.bind_some]
  have key : ∀ q : Int, q = IntKind.i64.wrap ((((IntKind.u64.wrap (a / 9223372036854775808)).toNat + (IntKind.u64.wrap c).toNat + Int.toNat ((k : Nat) : Int)) % 18446744073709551616 : Nat) : Int) → q * 18446744073709551616 + (((Int.toNat (a % 18446744073709551616) + Int.toNat d + Int.toNat 0) % 18446744073709551616 : Nat) : Int) = a + v ∧ ((a / 9223372036854775808 < 0 ↔ c < 0) → (q < 0 ↔ a / 9223372036854775808 < 0)) := by
    intro q hq
    rw [IntKind.wrap_u64, IntKind.wrap_u64, IntKind.wrap_i64] at hq
    simp only [Int.toNat_zero]
    have ha2 : (0 ≤ a ∧ a / 9223372036854775808 = 0 ∧ a % 18446744073709551616 = a) ∨ (a < 0 ∧ a / 9223372036854775808 = -1 ∧ a % 18446744073709551616 = a + 18446744073709551616) := by omega
    rcases ha2 with ⟨h0, e1, e2⟩ | ⟨h0, e1, e2⟩ <;> rcases hc with h4 | h4 <;> subst h4 <;> rw [e1] at hq ⊢ <;> rw [e2] at hk3 ⊢ <;> rcases hk3 with ⟨h5, h6⟩ | ⟨h5, h6⟩ <;> subst h6
    all_goals first
      | (have : q = 0 := by rw [hq]; decide
         subst this; omega)
      | (have : q = 1 := by rw [hq]; decide
         subst this; omega)
      | (have : q = -1 := by rw [hq]; decide
         subst this; omega)
      | (have : q = -2 := by rw [hq]; decide
         subst this; omega)
  obtain ⟨k1, k2⟩ := key _ rfl
  by_cases h2 : (decide (a / 9223372036854775808 < 0) == decide (c < 0)) = true
  · rw [h2]
    simp only [cond_true]
    have h3 : (decide (a / 9223372036854775808 < 0)) = decide (c < 0) := by simpa using h2
    have h4 : (a / 9223372036854775808 < 0 ↔ c < 0) := by simpa using h3
    have h5 := k2 h4
    have h6 : (!decide (IntKind.i64.wrap ((((IntKind.u64.wrap (a / 9223372036854775808)).toNat + (IntKind.u64.wrap c).toNat + Int.toNat ((k : Nat) : Int)) % 18446744073709551616 : Nat) : Int) < 0) == decide (a / 9223372036854775808 < 0)) = false := by
      rw [decide_eq_decide.2 h5]; cases decide (a / 9223372036854775808 < 0) <;> rfl
    rw [h6]
    exact ⟨_, _, _, rfl, (nmr _).1, (nmr _).2, k1⟩
  · have h2 : (decide (a / 9223372036854775808 < 0) == decide (c < 0)) = false := by simpa using h2
    rw [h2]
    exact ⟨_, _, _, rfl, (nmr _).1, (nmr _).2, k1⟩
def sat (z : Int) : Int := if z < -9223372036854775808 then -9223372036854775808 else if z > 9223372036854775807 then 9223372036854775807 else z
theorem u64m (a : Int) : IntKind.u64.wrap a = a % 18446744073709551616 := IntKind.wrap_u64 a
/-- The difference, or the nearer bound. -/
theorem sub16 (m : MSh.T) (a b : Int) (ha : -9223372036854775808 ≤ a ∧ a ≤ 9223372036854775807) (hb : -9223372036854775808 ≤ b ∧ b ≤ 9223372036854775807) : ∃ m', fn16 m (a, b, ()) = some (m', sat (a - b), ()) := by
  unfold fn16 law16
  simp only [fd63, u64m]
  obtain ⟨c, d, t, h1, h2, h3, h4⟩ := neg31 b hb
  rw [h1]
  simp only [Option.bind_some]
  obtain ⟨e, f, t2, k1, k2, k3, k4⟩ := add33 a c d (-b) ha ⟨h2, h3⟩ h4 (by omega)
  rw [k1]
  simp only [Option.bind_some, fd63]
  have hw : IntKind.i64.wrap f = if f < 9223372036854775808 then f else f - 18446744073709551616 := by rw [IntKind.wrap_i64]; split <;> omega
  by_cases hfit : -9223372036854775808 ≤ a - b ∧ a - b ≤ 9223372036854775807
  · have h5 : ((e : Int) != IntKind.i64.wrap f / 9223372036854775808) = false := by
      rw [hw]; simp only [bne_eq_false_iff_eq]; split <;> omega
    rw [h5]
    refine ⟨(m.fst, ()), ?_⟩
    have h6 : IntKind.i64.wrap f = sat (a - b) := by
      rw [hw]; unfold sat; split <;> rw [if_neg (by omega), if_neg (by omega)] <;> omega
    simp only [cond_false, h6]
  · have h5 : ((e : Int) != IntKind.i64.wrap f / 9223372036854775808) = true := by
      rw [hw]; simp only [bne_iff_ne]; split <;> omega
    rw [h5]
    unfold fn35 law35
    by_cases he : e < 0
    · simp only [he, decide_true, cond_true, Option.bind_some]
      refine ⟨(true, ()), ?_⟩
      have : sat (a - b) = -9223372036854775808 := by unfold sat; rw [if_pos (by omega)]
      rw [this]
    · simp only [he, decide_false, cond_false, cond_true, Option.bind_some]
      refine ⟨(true, ()), ?_⟩
      have : sat (a - b) = 9223372036854775807 := by unfold sat; rw [if_neg (by omega), if_pos (by omega)]
      rw [this]
theorem abs14 (m : MSh.T) (a : Int) (ha : -9223372036854775808 ≤ a ∧ a ≤ 9223372036854775807) : ∃ m', fn14 m (a, ()) = some (m', (if a < 0 then sat (0 - a) else a), ()) := by
  unfold fn14 law14 fn29 law29
  obtain ⟨m', h⟩ := sub16 m 0 a (by omega) ha
  by_cases h0 : a < 0
  · simp only [h0, decide_true, cond_true, h, Option.bind_some, if_true]
    exact ⟨_, rfl⟩
  · simp only [h0, decide_false, cond_false, if_false]
    exact ⟨_, rfl⟩
/-! ### how many bits a number has -/
theorem tab8 : ∀ k : Nat, k < 256 → (((ByteArray.mk (([0, 1, 2, 2, 3, 3, 3, 3, 4, 4, 4, 4, 4, 4, 4, 4, 5, 5, 5, 5, 5, 5, 5, 5, 5, 5, 5, 5, 5, 5, 5, 5, 6, 6, 6, 6, 6, 6, 6, 6, 6, 6, 6, 6, 6, 6, 6, 6, 6, 6, 6, 6, 6, 6, 6, 6, 6, 6, 6, 6, 6, 6, 6, 6].append [7, 7, 7, 7, 7, 7, 7, 7, 7, 7, 7, 7, 7, 7, 7, 7, 7, 7, 7, 7, 7, 7, 7, 7, 7, 7, 7, 7, 7, 7, 7, 7, 7, 7, 7, 7, 7, 7, 7, 7, 7, 7, 7, 7, 7, 7, 7, 7, 7, 7, 7, 7, 7, 7, 7, 7, 7, 7, 7, 7, 7, 7, 7, 7]).append ([8, 8, 8, 8, 8, 8, 8, 8, 8, 8, 8, 8, 8, 8, 8, 8, 8, 8, 8, 8, 8, 8, 8, 8, 8, 8, 8, 8, 8, 8, 8, 8, 8, 8, 8, 8, 8, 8, 8, 8, 8, 8, 8, 8, 8, 8, 8, 8, 8, 8, 8, 8, 8, 8, 8, 8, 8, 8, 8, 8, 8, 8, 8, 8].append [8, 8, 8, 8, 8, 8, 8, 8, 8, 8, 8, 8, 8, 8, 8, 8, 8, 8, 8, 8, 8, 8, 8, 8, 8, 8, 8, 8, 8, 8, 8, 8, 8, 8, 8, 8, 8, 8, 8, 8, 8, 8, 8, 8, 8, 8, 8, 8, 8, 8, 8, 8, 8, 8, 8, 8, 8, 8, 8, 8, 8, 8, 8, 8])).toArray).data.toList.getD k 0).1.toNat ≤ 8 ∧ k < 2 ^ ((ByteArray.mk (([0, 1, 2, 2, 3, 3, 3, 3, 4, 4, 4, 4, 4, 4, 4, 4, 5, 5, 5, 5, 5, 5, 5, 5, 5, 5, 5, 5, 5, 5, 5, 5, 6, 6, 6, 6, 6, 6, 6, 6, 6, 6, 6, 6, 6, 6, 6, 6, 6, 6, 6, 6, 6, 6, 6, 6, 6, 6, 6, 6, 6, 6, 6, 6].append [7, 7, 7, 7, 7, 7, 7, 7, 7, 7, 7, 7, 7, 7, 7, 7, 7, 7, 7, 7, 7, 7, 7, 7, 7, 7, 7, 7, 7, 7, 7, 7, 7, 7, 7, 7, 7, 7, 7, 7, 7, 7, 7, 7, 7, 7, 7, 7, 7, 7, 7, 7, 7, 7, 7, 7, 7, 7, 7, 7, 7, 7, 7, 7]).append ([8, 8, 8, 8, 8, 8, 8, 8, 8, 8, 8, 8, 8, 8, 8, 8, 8, 8, 8, 8, 8, 8, 8, 8, 8, 8, 8, 8, 8, 8, 8, 8, 8, 8, 8, 8, 8, 8, 8, 8, 8, 8, 8, 8, 8, 8, 8, 8, 8, 8, 8, 8, 8, 8, 8, 8, 8, 8, 8, 8, 8, 8, 8, 8].append [8, 8, 8, 8, 8, 8, 8, 8, 8, 8, 8, 8, 8, 8, 8, 8, 8, 8, 8, 8, 8, 8, 8, 8, 8, 8, 8, 8, 8, 8, 8, 8, 8, 8, 8, 8, 8, 8, 8, 8, 8, 8, 8, 8, 8, 8, 8, 8, 8, 8, 8, 8, 8, 8, 8, 8, 8, 8, 8, 8, 8, 8, 8, 8])).toArray).data.toList.getD k 0).1.toNat ∧ (0 < k → 2 ^ ((ByteArray.mk (([0, 1, 2, 2, 3, 3, 3, 3, 4, 4, 4, 4, 4, 4, 4, 4, 5, 5, 5, 5, 5, 5, 5, 5, 5, 5, 5, 5, 5, 5, 5, 5, 6, 6, 6, 6, 6, 6, 6, 6, 6, 6, 6, 6, 6, 6, 6, 6, 6, 6, 6, 6, 6, 6, 6, 6, 6, 6, 6, 6, 6, 6, 6, 6].append [7, 7, 7, 7, 7, 7, 7, 7, 7, 7, 7, 7, 7, 7, 7, 7, 7, 7, 7, 7, 7, 7, 7, 7, 7, 7, 7, 7, 7, 7, 7, 7, 7, 7, 7, 7, 7, 7, 7, 7, 7, 7, 7, 7, 7, 7, 7, 7, 7, 7, 7, 7, 7, 7, 7, 7, 7, 7, 7, 7, 7, 7, 7, 7]).append ([8, 8, 8, 8, 8, 8, 8, 8, 8, 8, 8, 8, 8, 8, 8, 8, 8, 8, 8, 8, 8, 8, 8, 8, 8, 8, 8, 8, 8, 8, 8, 8, 8, 8, 8, 8, 8, 8, 8, 8, 8, 8, 8, 8, 8, 8, 8, 8, 8, 8, 8, 8, 8, 8, 8, 8, 8, 8, 8, 8, 8, 8, 8, 8].append [8, 8, 8, 8, 8, 8, 8, 8, 8, 8, 8, 8, 8, 8, 8, 8, 8, 8, 8, 8, 8, 8, 8, 8, 8, 8, 8, 8, 8, 8, 8, 8, 8, 8, 8, 8, 8, 8, 8, 8, 8, 8, 8, 8, 8, 8, 8, 8, 8, 8, 8, 8, 8, 8, 8, 8, 8, 8, 8, 8, 8, 8, 8, 8])).toArray).data.toList.getD k 0).1.toNat ≤ 2 * k)) := by decide +kernel
theorem tabsize : (((ByteArray.mk (([0, 1, 2, 2, 3, 3, 3, 3, 4, 4, 4, 4, 4, 4, 4, 4, 5, 5, 5, 5, 5, 5, 5, 5, 5, 5, 5, 5, 5, 5, 5, 5, 6, 6, 6, 6, 6, 6, 6, 6, 6, 6, 6, 6, 6, 6, 6, 6, 6, 6, 6, 6, 6, 6, 6, 6, 6, 6, 6, 6, 6, 6, 6, 6].append [7, 7, 7, 7, 7, 7, 7, 7, 7, 7, 7, 7, 7, 7, 7, 7, 7, 7, 7, 7, 7, 7, 7, 7, 7, 7, 7, 7, 7, 7, 7, 7, 7, 7, 7, 7, 7, 7, 7, 7, 7, 7, 7, 7, 7, 7, 7, 7, 7, 7, 7, 7, 7, 7, 7, 7, 7, 7, 7, 7, 7, 7, 7, 7]).append ([8, 8, 8, 8, 8, 8, 8, 8, 8, 8, 8, 8, 8, 8, 8, 8, 8, 8, 8, 8, 8, 8, 8, 8, 8, 8, 8, 8, 8, 8, 8, 8, 8, 8, 8, 8, 8, 8, 8, 8, 8, 8, 8, 8, 8, 8, 8, 8, 8, 8, 8, 8, 8, 8, 8, 8, 8, 8, 8, 8, 8, 8, 8, 8].append [8, 8, 8, 8, 8, 8, 8, 8, 8, 8, 8, 8, 8, 8, 8, 8, 8, 8, 8, 8, 8, 8, 8, 8, 8, 8, 8, 8, 8, 8, 8, 8, 8, 8, 8, 8, 8, 8, 8, 8, 8, 8, 8, 8, 8, 8, 8, 8, 8, 8, 8, 8, 8, 8, 8, 8, 8, 8, 8, 8, 8, 8, 8, 8])).toArray).size : Nat) : Int) = 256 := by decide +kernel
theorem fd32' (a : Int) : Int.fdiv a (2 ^ min (Int.toNat 32) IntKind.u64.bits) = a / 4294967296 := by
  rw [show (2 : Int) ^ min (Int.toNat 32) IntKind.u64.bits = 4294967296 from by decide, Int.fdiv_eq_ediv_of_nonneg _ (by omega)]
theorem fd16' (a : Int) : Int.fdiv a (2 ^ min (Int.toNat 16) IntKind.u64.bits) = a / 65536 := by
  rw [show (2 : Int) ^ min (Int.toNat 16) IntKind.u64.bits = 65536 from by decide, Int.fdiv_eq_ediv_of_nonneg _ (by omega)]
theorem fd8' (a : Int) : Int.fdiv a (2 ^ min (Int.toNat 8) IntKind.u64.bits) = a / 256 := by
  rw [show (2 : Int) ^ min (Int.toNat 8) IntKind.u64.bits = 256 from by decide, Int.fdiv_eq_ediv_of_nonneg _ (by omega)]
def Len (x : Int) (z : Option (Sh.Ts [Sh.int IntKind.i64])) : Prop := ∃ n : Nat, z = some ((n : Int), ()) ∧ n ≤ 64 ∧ x < 2 ^ n ∧ (0 < x → (2 : Int) ^ n ≤ 2 * x)
theorem len_cond {x : Int} {c : Bool} {p q : Option (Sh.Ts [Sh.int IntKind.i64])} (hp : c = true → Len x p) (hq : c = false → Len x q) : Len x (bif c then p else q) := by
  cases c
  · exact hq rfl
  · exact hp rfl
theorem len_leaf (x z : Int) (k : Nat) (hk : k ≤ 56) (hx : 0 ≤ x) (hz0 : 0 ≤ z) (hz : z < 256) (h1 : z * 2 ^ k ≤ x) (h2 : x < (z + 1) * 2 ^ k) (h3 : k = 0 ∨ 0 < z) {E : Int} {c : Int} (hc : c = k) (hE : E = IntKind.i64.wrap (c + IntKind.i64.wrap ((((ByteArray.mk (([0, 1, 2, 2, 3, 3, 3, 3, 4, 4, 4, 4, 4, 4, 4, 4, 5, 5, 5, 5, 5, 5, 5, 5, 5, 5, 5, 5, 5, 5, 5, 5, 6, 6, 6, 6, 6, 6, 6, 6, 6, 6, 6, 6, 6, 6, 6, 6, 6, 6, 6, 6, 6, 6, 6, 6, 6, 6, 6, 6, 6, 6, 6, 6].append [7, 7, 7, 7, 7, 7, 7, 7, 7, 7, 7, 7, 7, 7, 7, 7, 7, 7, 7, 7, 7, 7, 7, 7, 7, 7, 7, 7, 7, 7, 7, 7, 7, 7, 7, 7, 7, 7, 7, 7, 7, 7, 7, 7, 7, 7, 7, 7, 7, 7, 7, 7, 7, 7, 7, 7, 7, 7, 7, 7, 7, 7, 7, 7]).append ([8, 8, 8, 8, 8, 8, 8, 8, 8, 8, 8, 8, 8, 8, 8, 8, 8, 8, 8, 8, 8, 8, 8, 8, 8, 8, 8, 8, 8, 8, 8, 8, 8, 8, 8, 8, 8, 8, 8, 8, 8, 8, 8, 8, 8, 8, 8, 8, 8, 8, 8, 8, 8, 8, 8, 8, 8, 8, 8, 8, 8, 8, 8, 8].append [8, 8, 8, 8, 8, 8, 8, 8, 8, 8, 8, 8, 8, 8, 8, 8, 8, 8, 8, 8, 8, 8, 8, 8, 8, 8, 8, 8, 8, 8, 8, 8, 8, 8, 8, 8, 8, 8, 8, 8, 8, 8, 8, 8, 8, 8, 8, 8, 8, 8, 8, 8, 8, 8, 8, 8, 8, 8, 8, 8, 8, 8, 8, 8])).toArray).data.toList.getD (IntKind.u8.wrap z).toNat 0).1.toNat : Nat) : Int))) :
    Len x (bif decide (0 ≤ IntKind.u8.wrap z) && decide (IntKind.u8.wrap z < ((ByteArray.mk (([0, 1, 2, 2, 3, 3, 3, 3, 4, 4, 4, 4, 4, 4, 4, 4, 5, 5, 5, 5, 5, 5, 5, 5, 5, 5, 5, 5, 5, 5, 5, 5, 6, 6, 6, 6, 6, 6, 6, 6, 6, 6, 6, 6, 6, 6, 6, 6, 6, 6, 6, 6, 6, 6, 6, 6, 6, 6, 6, 6, 6, 6, 6, 6].append [7, 7, 7, 7, 7, 7, 7, 7, 7, 7, 7, 7, 7, 7, 7, 7, 7, 7, 7, 7, 7, 7, 7, 7, 7, 7, 7, 7, 7, 7, 7, 7, 7, 7, 7, 7, 7, 7, 7, 7, 7, 7, 7, 7, 7, 7, 7, 7, 7, 7, 7, 7, 7, 7, 7, 7, 7, 7, 7, 7, 7, 7, 7, 7]).append ([8, 8, 8, 8, 8, 8, 8, 8, 8, 8, 8, 8, 8, 8, 8, 8, 8, 8, 8, 8, 8, 8, 8, 8, 8, 8, 8, 8, 8, 8, 8, 8, 8, 8, 8, 8, 8, 8, 8, 8, 8, 8, 8, 8, 8, 8, 8, 8, 8, 8, 8, 8, 8, 8, 8, 8, 8, 8, 8, 8, 8, 8, 8, 8].append [8, 8, 8, 8, 8, 8, 8, 8, 8, 8, 8, 8, 8, 8, 8, 8, 8, 8, 8, 8, 8, 8, 8, 8, 8, 8, 8, 8, 8, 8, 8, 8, 8, 8, 8, 8, 8, 8, 8, 8, 8, 8, 8, 8, 8, 8, 8, 8, 8, 8, 8, 8, 8, 8, 8, 8, 8, 8, 8, 8, 8, 8, 8, 8])).toArray).size : Int)) then some (E, ()) else none) := by
  have hw : IntKind.u8.wrap z = z := by rw [IntKind.wrap_u8]; omega
  rw [hw] at hE ⊢
  rw [tabsize]
  simp only [hz0, hz, decide_true, Bool.and_self, cond_true]
  obtain ⟨t1, t2, t3⟩ := tab8 z.toNat (by omega)
  generalize ((ByteArray.mk (([0, 1, 2, 2, 3, 3, 3, 3, 4, 4, 4, 4, 4, 4, 4, 4, 5, 5, 5, 5, 5, 5, 5, 5, 5, 5, 5, 5, 5, 5, 5, 5, 6, 6, 6, 6, 6, 6, 6, 6, 6, 6, 6, 6, 6, 6, 6, 6, 6, 6, 6, 6, 6, 6, 6, 6, 6, 6, 6, 6, 6, 6, 6, 6].append [7, 7, 7, 7, 7, 7, 7, 7, 7, 7, 7, 7, 7, 7, 7, 7, 7, 7, 7, 7, 7, 7, 7, 7, 7, 7, 7, 7, 7, 7, 7, 7, 7, 7, 7, 7, 7, 7, 7, 7, 7, 7, 7, 7, 7, 7, 7, 7, 7, 7, 7, 7, 7, 7, 7, 7, 7, 7, 7, 7, 7, 7, 7, 7]).append ([8, 8, 8, 8, 8, 8, 8, 8, 8, 8, 8, 8, 8, 8, 8, 8, 8, 8, 8, 8, 8, 8, 8, 8, 8, 8, 8, 8, 8, 8, 8, 8, 8, 8, 8, 8, 8, 8, 8, 8, 8, 8, 8, 8, 8, 8, 8, 8, 8, 8, 8, 8, 8, 8, 8, 8, 8, 8, 8, 8, 8, 8, 8, 8].append [8, 8, 8, 8, 8, 8, 8, 8, 8, 8, 8, 8, 8, 8, 8, 8, 8, 8, 8, 8, 8, 8, 8, 8, 8, 8, 8, 8, 8, 8, 8, 8, 8, 8, 8, 8, 8, 8, 8, 8, 8, 8, 8, 8, 8, 8, 8, 8, 8, 8, 8, 8, 8, 8, 8, 8, 8, 8, 8, 8, 8, 8, 8, 8])).toArray).data.toList.getD z.toNat 0).1.toNat = t at *
  subst hc
  have e1 : IntKind.i64.wrap (t : Int) = t := i64_in _ (by omega)
  have e2 : IntKind.i64.wrap ((k : Int) + t) = ((k + t : Nat) : Int) := by rw [i64_in _ (by omega)]; simp
  rw [e1, e2] at hE
  subst hE
  refine ⟨k + t, rfl, by omega, ?_, fun h0 => ?_⟩
  · have h4 : z + 1 ≤ 2 ^ t := by
      have : ((z.toNat + 1 : Nat) : Int) ≤ ((2 ^ t : Nat) : Int) := by exact_mod_cast t2
      simp at this; omega
    have h5 : (z + 1) * 2 ^ k ≤ 2 ^ t * 2 ^ k := Int.mul_le_mul_of_nonneg_right h4 (Int.le_of_lt (Int.pow_pos (by omega)))
    rw [Nat.add_comm, Int.pow_add]; omega
  · have hz1 : 0 < z := by
      rcases h3 with h3 | h3
      · subst h3; simp at h1 h2; omega
      · exact h3
    have h4 : (2 : Int) ^ t ≤ 2 * z := by
      have := t3 (by omega)
      have : ((2 ^ t : Nat) : Int) ≤ ((2 * z.toNat : Nat) : Int) := by exact_mod_cast this
      simp at this; omega
    have h5 : (2 : Int) ^ t * 2 ^ k ≤ 2 * z * 2 ^ k := Int.mul_le_mul_of_nonneg_right h4 (Int.le_of_lt (Int.pow_pos (by omega)))
    rw [Int.mul_assoc] at h5
    rw [Nat.add_comm, Int.pow_add]; omega
theorem len92 (x : Int) (hx : 0 ≤ x ∧ x < 18446744073709551616) : Len x (fn92 (x, ())) := by
  unfold fn92 law92
  simp only [fd32', fd16', fd8']
  refine len_cond (fun a => ?_) fun a => ?_ <;> refine len_cond (fun b => ?_) fun b => ?_ <;> refine len_cond (fun c => ?_) fun c => ?_
  · have a : x ≥ 4294967296 := of_decide_eq_true a
    have b : x / 4294967296 ≥ 65536 := of_decide_eq_true b
    have c : x / 4294967296 / 65536 ≥ 256 := of_decide_eq_true c
    exact len_leaf x _ 56 (by omega) (by omega) (by omega) (by omega) (by omega) (by omega) (by omega) (c := 56) rfl rfl
  · have a : x ≥ 4294967296 := of_decide_eq_true a
    have b : x / 4294967296 ≥ 65536 := of_decide_eq_true b
    have c : ¬ (x / 4294967296 / 65536 ≥ 256) := of_decide_eq_false c
    exact len_leaf x _ 48 (by omega) (by omega) (by omega) (by omega) (by omega) (by omega) (by omega) (c := 48) rfl rfl
  · have a : x ≥ 4294967296 := of_decide_eq_true a
    have b : ¬ (x / 4294967296 ≥ 65536) := of_decide_eq_false b
    have c : x / 4294967296 ≥ 256 := of_decide_eq_true c
    exact len_leaf x _ 40 (by omega) (by omega) (by omega) (by omega) (by omega) (by omega) (by omega) (c := 40) rfl rfl
  · have a : x ≥ 4294967296 := of_decide_eq_true a
    have b : ¬ (x / 4294967296 ≥ 65536) := of_decide_eq_false b
    have c : ¬ (x / 4294967296 ≥ 256) := of_decide_eq_false c
    exact len_leaf x _ 32 (by omega) (by omega) (by omega) (by omega) (by omega) (by omega) (by omega) (c := 32) rfl rfl
  · have a : ¬ (x ≥ 4294967296) := of_decide_eq_false a
    have b : x ≥ 65536 := of_decide_eq_true b
    have c : x / 65536 ≥ 256 := of_decide_eq_true c
    exact len_leaf x _ 24 (by omega) (by omega) (by omega) (by omega) (by omega) (by omega) (by omega) (c := 24) rfl rfl
  · have a : ¬ (x ≥ 4294967296) := of_decide_eq_false a
    have b : x ≥ 65536 := of_decide_eq_true b
    have c : ¬ (x / 65536 ≥ 256) := of_decide_eq_false c
    exact len_leaf x _ 16 (by omega) (by omega) (by omega) (by omega) (by omega) (by omega) (by omega) (c := 16) rfl rfl
  · have a : ¬ (x ≥ 4294967296) := of_decide_eq_false a
    have b : ¬ (x ≥ 65536) := of_decide_eq_false b
    have c : x ≥ 256 := of_decide_eq_true c
    exact len_leaf x _ 8 (by omega) (by omega) (by omega) (by omega) (by omega) (by omega) (by omega) (c := 8) rfl rfl
  · have a : ¬ (x ≥ 4294967296) := of_decide_eq_false a
    have b : ¬ (x ≥ 65536) := of_decide_eq_false b
    have c : ¬ (x ≥ 256) := of_decide_eq_false c
    exact len_leaf x _ 0 (by omega) (by omega) (by omega) (by omega) (by omega) (by omega) (by omega) (c := 0) rfl rfl
/-! ### Div64: it comes to an end -/
abbrev Y73 (x : Sh.Ts [Sh.int IntKind.u64, Sh.int IntKind.u64, Sh.int IntKind.u64]) (v0 : Sh.Ts [Sh.int IntKind.i64]) : Int := (IntKind.u64.wrap (x.snd.snd.fst * 2 ^ min (IntKind.u64.wrap v0.fst).toNat 64)).fdiv (2 ^ min (Int.toNat 32) 64)
theorem r73a {β : Type} (N0 N1 : Nat) (x : Sh.Ts [Sh.int IntKind.u64, Sh.int IntKind.u64, Sh.int IntKind.u64]) (v0 : Sh.Ts [Sh.int IntKind.i64]) (k0 : Int → Option β) (n : Nat) (p q : Int) : (∃ w, law73o0 N0 N1 x v0 k0 (n + 1) p q = k0 w) ∨ (∃ j, law73o0 N0 N1 x v0 k0 (n + 1) p q = law73o0 N0 N1 x v0 k0 n j (IntKind.u64.wrap (q + Y73 x v0)) ∧ IntKind.u64.wrap (q + Y73 x v0) < 4294967296) := by
  rw [law73o0]
  have go : ∀ (z : Option β) (f : Int → Option β), (∃ w, z = k0 w) → (∃ w, (bif decide (IntKind.u64.wrap (q + Y73 x v0) ≥ 4294967296) then z else f 0) = k0 w) ∨ ((bif decide (IntKind.u64.wrap (q + Y73 x v0) ≥ 4294967296) then z else f 0) = f 0 ∧ IntKind.u64.wrap (q + Y73 x v0) < 4294967296) := fun z f hz => by
    by_cases h : IntKind.u64.wrap (q + Y73 x v0) ≥ 4294967296
    · rw [decide_eq_true h]; exact .inl hz
    · rw [decide_eq_false h]; exact .inr ⟨rfl, by omega⟩
  refine bcase (R := fun z => (∃ w, z = k0 w) ∨ (∃ j, z = law73o0 N0 N1 x v0 k0 n j (IntKind.u64.wrap (q + Y73 x v0)) ∧ IntKind.u64.wrap (q + Y73 x v0) < 4294967296)) _ _ _ (fun _ => ?_) (fun _ => ?_)
  · rcases go _ (fun _ => law73o0 N0 N1 x v0 k0 n (IntKind.u64.wrap (p - 1)) (IntKind.u64.wrap (q + Y73 x v0))) ⟨_, rfl⟩ with h | h
    · exact .inl h
    · exact .inr ⟨_, h.1, h.2⟩
  · refine bcase (R := fun z => (∃ w, z = k0 w) ∨ (∃ j, z = law73o0 N0 N1 x v0 k0 n j (IntKind.u64.wrap (q + Y73 x v0)) ∧ IntKind.u64.wrap (q + Y73 x v0) < 4294967296)) _ _ _ (fun _ => ?_) (fun _ => .inl ⟨_, rfl⟩)
    rcases go _ (fun _ => law73o0 N0 N1 x v0 k0 n (IntKind.u64.wrap (p - 1)) (IntKind.u64.wrap (q + Y73 x v0))) ⟨_, rfl⟩ with h | h
    · exact .inl h
    · exact .inr ⟨_, h.1, h.2⟩
theorem r73b {β : Type} (N0 N1 : Nat) (x : Sh.Ts [Sh.int IntKind.u64, Sh.int IntKind.u64, Sh.int IntKind.u64]) (v0 : Sh.Ts [Sh.int IntKind.i64]) (w13 : Int) (k0 : Int → Option β) (n : Nat) (q p : Int) : (∃ w, law73o1o1 N0 N1 x v0 w13 k0 (n + 1) q p = k0 w) ∨ (∃ j, law73o1o1 N0 N1 x v0 w13 k0 (n + 1) q p = law73o1o1 N0 N1 x v0 w13 k0 n (IntKind.u64.wrap (q + Y73 x v0)) j ∧ IntKind.u64.wrap (q + Y73 x v0) < 4294967296) := by
  rw [law73o1o1]
  have go : ∀ (z : Option β) (f : Int → Option β), (∃ w, z = k0 w) → (∃ w, (bif decide (IntKind.u64.wrap (q + Y73 x v0) ≥ 4294967296) then z else f 0) = k0 w) ∨ ((bif decide (IntKind.u64.wrap (q + Y73 x v0) ≥ 4294967296) then z else f 0) = f 0 ∧ IntKind.u64.wrap (q + Y73 x v0) < 4294967296) := fun z f hz => by
    by_cases h : IntKind.u64.wrap (q + Y73 x v0) ≥ 4294967296
    · rw [decide_eq_true h]; exact .inl hz
    · rw [decide_eq_false h]; exact .inr ⟨rfl, by omega⟩
  refine bcase (R := fun z => (∃ w, z = k0 w) ∨ (∃ j, z = law73o1o1 N0 N1 x v0 w13 k0 n (IntKind.u64.wrap (q + Y73 x v0)) j ∧ IntKind.u64.wrap (q + Y73 x v0) < 4294967296)) _ _ _ (fun _ => ?_) (fun _ => ?_)
  · rcases go _ (fun _ => law73o1o1 N0 N1 x v0 w13 k0 n (IntKind.u64.wrap (q + Y73 x v0)) (IntKind.u64.wrap (p - 1))) ⟨_, rfl⟩ with h | h
    · exact .inl h
    · exact .inr ⟨_, h.1, h.2⟩
  · refine bcase (R := fun z => (∃ w, z = k0 w) ∨ (∃ j, z = law73o1o1 N0 N1 x v0 w13 k0 n (IntKind.u64.wrap (q + Y73 x v0)) j ∧ IntKind.u64.wrap (q + Y73 x v0) < 4294967296)) _ _ _ (fun _ => ?_) (fun _ => .inl ⟨_, rfl⟩)
    rcases go _ (fun _ => law73o1o1 N0 N1 x v0 w13 k0 n (IntKind.u64.wrap (q + Y73 x v0)) (IntKind.u64.wrap (p - 1))) ⟨_, rfl⟩ with h | h
    · exact .inl h
    · exact .inr ⟨_, h.1, h.2⟩
theorem end73a {β : Type} (N0 N1 : Nat) (x : Sh.Ts [Sh.int IntKind.u64, Sh.int IntKind.u64, Sh.int IntKind.u64]) (v0 : Sh.Ts [Sh.int IntKind.i64]) (k0 : Int → Option β) (hY : 2147483648 ≤ Y73 x v0) (n : Nat) (p q : Int) : ∃ w, law73o0 N0 N1 x v0 k0 (n + 4) p q = k0 w := by
  rcases r73a N0 N1 x v0 k0 (n + 3) p q with h | ⟨j, h, h1⟩
  · exact h
  rw [h]
  have a1 := u64r (q + Y73 x v0)
  generalize IntKind.u64.wrap (q + Y73 x v0) = q1 at *
  rcases r73a N0 N1 x v0 k0 (n + 2) j q1 with h | ⟨j, h, h2⟩
  · exact h
  rw [h]
  have a2 := u64r (q1 + Y73 x v0)
  have a3 := u64m (q1 + Y73 x v0)
  generalize IntKind.u64.wrap (q1 + Y73 x v0) = q2 at *
  rcases r73a N0 N1 x v0 k0 (n + 1) j q2 with h | ⟨j, h, h3⟩
  · exact h
  rw [h]
  have a4 := u64r (q2 + Y73 x v0)
  have a5 := u64m (q2 + Y73 x v0)
  have hY2 : Y73 x v0 < 4294967296 := by
    unfold Y73
    rw [min32, Int.fdiv_eq_ediv_of_nonneg _ (by omega)]
    have := u64r (x.snd.snd.fst * 2 ^ min (IntKind.u64.wrap v0.fst).toNat 64)
    omega
  generalize IntKind.u64.wrap (q2 + Y73 x v0) = q3 at *
  exfalso; omega
theorem end73b {β : Type} (N0 N1 : Nat) (x : Sh.Ts [Sh.int IntKind.u64, Sh.int IntKind.u64, Sh.int IntKind.u64]) (v0 : Sh.Ts [Sh.int IntKind.i64]) (w13 : Int) (k0 : Int → Option β) (hY : 2147483648 ≤ Y73 x v0) (n : Nat) (q p : Int) : ∃ w, law73o1o1 N0 N1 x v0 w13 k0 (n + 4) q p = k0 w := by
  rcases r73b N0 N1 x v0 w13 k0 (n + 3) q p with h | ⟨j, h, h1⟩
  · exact h
  rw [h]
  have a1 := u64r (q + Y73 x v0)
  generalize IntKind.u64.wrap (q + Y73 x v0) = q1 at *
  rcases r73b N0 N1 x v0 w13 k0 (n + 2) q1 j with h | ⟨j, h, h2⟩
  · exact h
  rw [h]
  have a2 := u64r (q1 + Y73 x v0)
  have a3 := u64m (q1 + Y73 x v0)
  generalize IntKind.u64.wrap (q1 + Y73 x v0) = q2 at *
  rcases r73b N0 N1 x v0 w13 k0 (n + 1) q2 j with h | ⟨j, h, h3⟩
  · exact h
  rw [h]
  have a4 := u64r (q2 + Y73 x v0)
  have a5 := u64m (q2 + Y73 x v0)
  have hY2 : Y73 x v0 < 4294967296 := by
    unfold Y73
    rw [min32, Int.fdiv_eq_ediv_of_nonneg _ (by omega)]
    have := u64r (x.snd.snd.fst * 2 ^ min (IntKind.u64.wrap v0.fst).toNat 64)
    omega
  generalize IntKind.u64.wrap (q2 + Y73 x v0) = q3 at *
  exfalso; omega
theorem lz84 (y : Int) (hy : 0 < y ∧ y < 18446744073709551616) : ∃ s : Nat, fn84 (y, ()) = some ((s : Int), ()) ∧ s ≤ 63 ∧ 9223372036854775808 ≤ y * 2 ^ s ∧ y * 2 ^ s < 18446744073709551616 := by
  unfold fn84 law84
  obtain ⟨n, h1, h2, h3, h4⟩ := len92 y (by omega)
  rw [h1]
  simp only [Option.bind_some]
  have hn : n ≠ 0 := fun e => by subst e; simp at h3; omega
  have e1 : IntKind.i64.wrap (64 - (n : Int)) = ((64 - n : Nat) : Int) := by rw [i64_in _ (by omega)]; omega
  refine ⟨64 - n, by rw [e1], by omega, ?_, ?_⟩
  · have h5 := h4 (by omega)
    have h6 : (2 : Int) ^ n * 2 ^ (64 - n) ≤ 2 * y * 2 ^ (64 - n) := Int.mul_le_mul_of_nonneg_right h5 (Int.le_of_lt (Int.pow_pos (by omega)))
    rw [← Int.pow_add, show n + (64 - n) = 64 by omega, Int.mul_assoc] at h6
    have : (2 : Int) ^ 64 = 18446744073709551616 := by decide
    omega
  · have h6 : y * 2 ^ (64 - n) < 2 ^ n * 2 ^ (64 - n) := Int.mul_lt_mul_of_pos_right h3 (Int.pow_pos (by omega))
    rw [← Int.pow_add, show n + (64 - n) = 64 by omega] at h6
    have : (2 : Int) ^ 64 = 18446744073709551616 := by decide
    omega
theorem u64in (a : Int) (h : 0 ≤ a ∧ a < 18446744073709551616) : IntKind.u64.wrap a = a := by rw [IntKind.wrap_u64]; omega
theorem y73 (a b y : Int) (s : Nat) (hs : s ≤ 63) (h1 : 9223372036854775808 ≤ y * 2 ^ s) (h2 : y * 2 ^ s < 18446744073709551616) : 2147483648 ≤ Y73 (a, b, y, ()) ((s : Int), ()) := by
  unfold Y73
  simp only
  rw [min32, Int.fdiv_eq_ediv_of_nonneg _ (by omega), u64in (s : Int) (by omega)]
  have : min (Int.toNat (s : Int)) 64 = s := by simp; omega
  rw [this, u64in _ (by omega)]
  omega
/-- A quotient of two words by one is told, where it fits. -/
theorem tot73' (N0 N1 : Nat) (hN0 : 4 ≤ N0) (hN1 : 4 ≤ N1) (a b y : Int) (hb : 0 ≤ b ∧ b < 18446744073709551616) (hy : 0 < y ∧ y < 18446744073709551616) (ha : a < y) : ∃ (q r : Int), law73 N0 N1 (a, b, y, ()) = some (q, r, ()) ∧ 0 ≤ q ∧ q < 18446744073709551616 ∧ 0 ≤ r ∧ r < 18446744073709551616 := by
  unfold law73
  simp only
  have c1 : (y == 0) = false := by simp; omega
  have c2 : decide (y ≤ a) = false := by simp; omega
  have c3 : decide (y = 0) = false := by simp; omega
  rw [c1, c2, c3]
  simp only [cond_false, Bool.not_false, cond_true]
  cases hz : (a == 0) with
  | true =>
    simp only [cond_true]
    refine ⟨_, _, rfl, (u64r _).1, (u64r _).2, ?_, ?_⟩
    · exact Int.tmod_nonneg _ hb.1
    · have := Int.tmod_lt_of_pos b hy.1
      omega
  | false =>
    simp only [cond_false]
    obtain ⟨s, k1, k2, k3, k4⟩ := lz84 y hy
    rw [k1]
    have g1 : ∀ z : Int, decide (0 ≤ IntKind.u64.wrap z) = true := fun z => decide_eq_true (u64r z).1
    simp only [Option.bind_some, g1, cond_true]
    have hY := y73 a b y s k2 k3 k4
    have hY0 : (!decide ((IntKind.u64.wrap (y * 2 ^ min (IntKind.u64.wrap (s : Int)).toNat 64)).fdiv (2 ^ min (Int.toNat 32) 64) = 0)) = true := by
      have : (IntKind.u64.wrap (y * 2 ^ min (IntKind.u64.wrap (s : Int)).toNat 64)).fdiv (2 ^ min (Int.toNat 32) 64) = Y73 (a, b, y, ()) ((s : Int), ()) := rfl
      rw [this, Bool.not_eq_true', decide_eq_false_iff_not]
      omega
    have hY1 : (!decide ((IntKind.u64.wrap (y * 2 ^ min (IntKind.u64.wrap (s : Int)).toNat IntKind.u64.bits)).fdiv (2 ^ min (Int.toNat 32) IntKind.u64.bits) = 0)) = true := hY0
    rw [hY1]
    simp only [cond_true]
    obtain ⟨n0, rfl⟩ : ∃ n, N0 = n + 4 := ⟨N0 - 4, by omega⟩
    obtain ⟨n1, rfl⟩ : ∃ n, N1 = n + 4 := ⟨N1 - 4, by omega⟩
    obtain ⟨w, hw⟩ := end73a (β := Sh.Ts [Sh.int IntKind.u64, Sh.int IntKind.u64]) (n0 + 4) (n1 + 4) (a, b, y, ()) ((s : Int), ()) _ hY n0 _ _
    rw [hw, hY0]
    simp only [cond_true]
    obtain ⟨w2, hw2⟩ := end73b (β := Sh.Ts [Sh.int IntKind.u64, Sh.int IntKind.u64]) (n0 + 4) (n1 + 4) (a, b, y, ()) ((s : Int), ()) w _ hY n1 _ _
    rw [hw2]
    have e1 : min (IntKind.u64.wrap (s : Int)).toNat 64 = s := by rw [u64in _ (by omega)]; simp; omega
    refine ⟨_, _, rfl, (u64r _).1, (u64r _).2, ?_, ?_⟩
    · rw [e1, Int.fdiv_eq_ediv_of_nonneg _ (Int.le_of_lt (Int.pow_pos (by omega)))]
      exact Int.ediv_nonneg (u64r _).1 (Int.le_of_lt (Int.pow_pos (by omega)))
    · rw [e1, Int.fdiv_eq_ediv_of_nonneg _ (Int.le_of_lt (Int.pow_pos (by omega)))]
      refine Int.lt_of_le_of_lt (Int.ediv_le_self _ (u64r _).1) (u64r _).2
theorem tot73 (a b y : Int) (hb : 0 ≤ b ∧ b < 18446744073709551616) (hy : 0 < y ∧ y < 18446744073709551616) (ha : a < y) : ∃ (q r : Int), fn73 (a, b, y, ()) = some (q, r, ()) ∧ 0 ≤ q ∧ q < 18446744073709551616 ∧ 0 ≤ r ∧ r < 18446744073709551616 := tot73' _ _ (by decide) (by decide) a b y hb hy ha
theorem tot72 (a b : Int) (hb : 0 ≤ b ∧ b < 18446744073709551616) : ∃ (p q : Int) (t : Bool), fn72 ((a, b, ()), ()) = some ((p, q, ()), t, ()) ∧ 0 ≤ p ∧ p < 18446744073709551616 ∧ 0 ≤ q ∧ q < 18446744073709551616 := by
  unfold fn72 law72 fn60 sub64Law
  simp only
  have h1 : decide (Int.toNat (if Int.toNat 0 < Int.toNat b + Int.toNat 0 then 1 else 0) ≤ 1) = true := by
    simp only [decide_eq_true_eq]; split <;> decide
  rw [h1]
  simp only [cond_true, Option.bind_some]
  cases decide (a ≥ 0)
  · exact ⟨_, _, _, rfl, (nmr _).1, (nmr _).2, (nmr _).1, (nmr _).2⟩
  · exact ⟨_, _, _, rfl, (u64r _).1, (u64r _).2, hb.1, hb.2⟩
def W (z : Option (Sh.Ts [Sh.int IntKind.i64, Sh.bool])) : Prop := ∃ (q : Int) (t : Bool), z = some (q, t, ()) ∧ -9223372036854775808 ≤ q ∧ q ≤ 9223372036854775807
theorem W_cond {c : Bool} {p q : Option (Sh.Ts [Sh.int IntKind.i64, Sh.bool])} (hp : c = true → W p) (hq : c = false → W q) : W (bif c then p else q) := by
  cases c
  · exact hq rfl
  · exact hp rfl
theorem W_zero (t : Bool) : W (some (0, t, ())) := ⟨_, _, rfl, by decide, by decide⟩
theorem W_wrap (a : Int) (t : Bool) : W (some (IntKind.i64.wrap a, t, ())) := ⟨_, _, rfl, (i64r a).1, (i64r a).2⟩
theorem W_bind {a b y : Int} {f : Sh.Ts [Sh.int IntKind.u64, Sh.int IntKind.u64] → Option (Sh.Ts [Sh.int IntKind.i64, Sh.bool])} (ha : 0 ≤ a) (hb : 0 ≤ b ∧ b < 18446744073709551616) (hy : y < 18446744073709551616) (hc : decide (a ≥ y) = false) (h : ∀ v, W (f v)) : W (Option.bind (fn73 (a, b, y, ())) f) := by
  have hc : ¬ (a ≥ y) := of_decide_eq_false hc
  obtain ⟨q, r, hr, _⟩ := tot73 a b y hb (by omega) (by omega)
  rw [hr]; exact h _
theorem tot59 (a b d : Int) (hb : 0 ≤ b ∧ b < 18446744073709551616) : W (fn59 ((a, b, ()), d, ())) := by
  unfold fn59 law59
  obtain ⟨p, q, t, h, h1, h2, h3, h4⟩ := tot72 a b hb
  rw [h]
  simp only [Option.bind_some]
  repeat' (first | exact W_zero _ | exact W_wrap _ _ | (refine W_bind h1 ⟨h3, h4⟩ (u64r _).2 (by assumption) fun _ => ?_) | (refine W_cond (fun _ => ?_) fun _ => ?_))
theorem tot30 (m : MSh.T) (a b : Int) : R (fn30 m (a, b, ())) := by
  unfold fn30 law30
  refine R_cond ?_ ?_
  · unfold fn58 law58
    obtain ⟨m', r, h, h1⟩ := tot35 m (decide (a < 0), ())
    simp only [h, Option.bind_some]
    cases (a == 0)
    · exact R_some h1
    · exact R_some (r := 0) ⟨by decide, by decide⟩
  · obtain ⟨q, t, h, h1⟩ := tot59 (Int.fdiv a (2 ^ min (Int.toNat 32) 64)) (IntKind.u64.wrap (IntKind.u64.wrap a * 2 ^ min (Int.toNat 32) 64)) b (u64r _)
    rw [h]
    simp only [Option.bind_some]
    repeat' (first | exact R_some h1 | exact R_some (by assumption) | refine R_cond ?_ ?_ | (refine R_bind35 fun _ _ _ => ?_))
theorem tot15 (m : MSh.T) (a b c : Int) : R (fn15 m (a, b, c, ())) := by
  unfold fn15 law15
  obtain ⟨m', r, h, h1⟩ := tot30 m a b
  simp only [h, Option.bind_some]
  obtain ⟨m2, r2, h2, h3⟩ := tot20 m' (r, c, ())
  simp only [h2, Option.bind_some]
  exact R_some h3
/-- What is slowed never turns round, nor gets faster. -/
theorem slow6 (m : MSh.T) (w a b c : Int) (hw : -9223372036854775808 ≤ w ∧ w ≤ 9223372036854775807) : ∃ (m' : MSh.T) (r : Int), fn6 m (w, a, b, c, ()) = some (m', r, ()) ∧ (0 ≤ w → 0 ≤ r ∧ r ≤ w) ∧ (w < 0 → r ≤ 0 ∧ w ≤ r) := by
  unfold fn6 law6
  obtain ⟨m1, t, h1, h2⟩ := tot15 m a b c
  simp only [h1, Option.bind_some]
  obtain ⟨m2, h3⟩ := abs14 m1 t h2
  simp only [h3, Option.bind_some]
  obtain ⟨m3, h4⟩ := abs14 m2 w hw
  simp only [h4, Option.bind_some]
  have ht : 0 ≤ (if (t : Int) < 0 then sat (0 - t) else t) ∧ (if (t : Int) < 0 then sat (0 - t) else t) ≤ 9223372036854775807 := by
    have h2 : -9223372036854775808 ≤ (t : Int) ∧ (t : Int) ≤ 9223372036854775807 := h2
    split
    · unfold sat; repeat' split
      all_goals omega
    · omega
  generalize (if (t : Int) < 0 then sat (0 - t) else t) = turn at *
  have hwa : (if w < 0 then sat (0 - w) else w) = if w < 0 then (if w = -9223372036854775808 then 9223372036854775807 else -w) else w := by
    unfold sat; repeat' split
    all_goals omega
  rw [hwa]
  by_cases hle : (if w < 0 then (if w = -9223372036854775808 then 9223372036854775807 else -w) else w) ≤ turn
  · rw [decide_eq_true hle]
    exact ⟨_, _, rfl, fun h => ⟨by omega, h⟩, fun h => ⟨by omega, by omega⟩⟩
  · rw [decide_eq_false hle]
    simp only [cond_false]
    by_cases h0 : w < 0
    · rw [decide_eq_true h0]
      simp only [cond_true]
      have e1 : IntKind.i64.wrap (0 - turn) = -turn := by rw [i64_in _ (by omega)]; omega
      rw [e1]
      obtain ⟨m4, h5⟩ := sub16 m3 w (-turn) hw (by omega)
      simp only [h5, Option.bind_some]
      refine ⟨_, _, rfl, fun h => by omega, fun _ => ?_⟩
      rw [if_pos h0] at hle
      unfold sat
      rw [if_neg (by omega), if_neg (by split at hle <;> omega)]
      split at hle <;> omega
    · rw [decide_eq_false h0]
      simp only [cond_false]
      obtain ⟨m4, h5⟩ := sub16 m3 w turn hw (by omega)
      simp only [h5, Option.bind_some]
      refine ⟨_, _, rfl, fun _ => ?_, fun h => by omega⟩
      rw [if_neg h0] at hle
      unfold sat
      rw [if_neg (by omega), if_neg (by omega)]
      omega
theorem true3 (x : Sh.Ts [Sh.st [Sh.int IntKind.i64, Sh.int IntKind.i64, Sh.int IntKind.i64, Sh.int IntKind.i64]]) (hx : -9223372036854775808 ≤ (x.fst.fst : Int) ∧ (x.fst.fst : Int) ≤ 9223372036854775807) : fn3 x = some (true, ()) := by
  obtain ⟨⟨w, a, b, c, u⟩, u'⟩ := x
  unfold fn3 law3
  obtain ⟨m', r, h, h1, h2⟩ := slow6 (false, ()) w a b c hx
  simp only
  rw [h]
  simp only [Option.bind_some]
  by_cases h0 : (w : Int) ≥ 0
  · obtain ⟨h3, h4⟩ := h1 h0
    rw [decide_eq_true h0, decide_eq_true (show (r : Int) ≥ 0 from h3), decide_eq_true (show (r : Int) ≤ w from h4)]
    rfl
  · obtain ⟨h3, h4⟩ := h2 (Int.not_le.mp h0)
    rw [decide_eq_false h0, decide_eq_true (show (r : Int) ≤ 0 from h3), decide_eq_true (show (r : Int) ≥ w from h4)]
    rfl
end Go.Proofs.Ytiikkepnpidilaa
