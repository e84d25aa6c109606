/- Plain Lean: what the laws of this program's functions come to, in numbers and lists; no program is run here. -/
import Derived.Test.YtkobnmpilcpojaaGreatPP7r
set_option linter.unusedVariables false
set_option linter.unusedSimpArgs false
set_option maxRecDepth 100000
namespace Go.Proofs.YtkobnmpilcpojaaGreat
open Go Go.Ab Go.Proofs Go.IntWalk
theorem bifT {α : Type} {c : Bool} {a b : α} (h : c = true) : (bif c then a else b) = a := by subst h; rfl
theorem bifF {α : Type} {c : Bool} {a b : α} (h : c = false) : (bif c then a else b) = b := by subst h; rfl
theorem bindT {α β : Type} {o : Option α} {v : α} {f : α → Option β} (h : o = some v) : Option.bind o f = f v := by subst h; rfl
theorem add71o (u v : Int) (hu : 0 ≤ u ∧ u < 170141183460469231731687303715884105728) (hv : 0 ≤ v ∧ v < 170141183460469231731687303715884105728) (h : ¬ u + v < 170141183460469231731687303715884105728) : fn70 (wd u, wd v, ()) = some ((0, 0, ()), false, ()) := by
  unfold fn70 law70 fn128 add64Law wd
  simp only
  have h1 : decide (((u % 18446744073709551616).toNat + (v % 18446744073709551616).toNat + Int.toNat 0) / 18446744073709551616 ≤ 1) = true := by
    simp only [decide_eq_true_eq]; omega
  have e0 : ((((u % 18446744073709551616).toNat + (v % 18446744073709551616).toNat + Int.toNat 0) / 18446744073709551616 : Nat) : Int).toNat = ((u % 18446744073709551616).toNat + (v % 18446744073709551616).toNat + Int.toNat 0) / 18446744073709551616 := by omega
  rw [e0, h1]
  simp only [cond_true, Option.bind_some]
  have key : IntKind.i64.wrap (((((IntKind.u64.wrap (u / 18446744073709551616)).toNat + (IntKind.u64.wrap (v / 18446744073709551616)).toNat + ((u % 18446744073709551616).toNat + (v % 18446744073709551616).toNat + Int.toNat 0) / 18446744073709551616) % 18446744073709551616 : Nat) : Int)) < 0 := by
    rw [u64m, u64m, i64m]
    omega
  rw [decide_eq_true key, decide_eq_false (show ¬ u / 18446744073709551616 < 0 by omega), decide_eq_false (show ¬ v / 18446744073709551616 < 0 by omega)]
  rfl
def sqs : List Int → Int
  | [] => 0
  | a :: l => a * a + sqs l
theorem sqs_nn : ∀ l, 0 ≤ sqs l
  | [] => Int.le_refl 0
  | a :: l => Int.add_nonneg (sq_nn a) (sqs_nn l)
theorem sq64 {a : Int} (h : I64 a) : a * a ≤ 85070591730234615865843651857942052864 := by
  unfold I64 at h
  have := prod_le (a := a) (b := a) (A := 9223372036854775808) (B := 9223372036854775808) (by omega) (by omega)
  omega
theorem len_loop (N : Nat) (m : MT) (l : List Int) (k : Bool → Int → Int → Option (MT × (Int × Unit))) (hl : ∀ a ∈ l, I64 a) (hlen : l.length ≤ 1000) : ∀ (j n i : Nat) (S : Int), i + j = l.length → j < n → 0 ≤ S → S < 170141183460469231731687303715884105728 →
    (S + sqs (l.drop i) < 170141183460469231731687303715884105728 ∧ law93o0 N m (l, ()) k n true i (wd S).1 (wd S).2.1 = k true (wd (S + sqs (l.drop i))).1 (wd (S + sqs (l.drop i))).2.1) ∨ (¬ S + sqs (l.drop i) < 170141183460469231731687303715884105728 ∧ law93o0 N m (l, ()) k n true i (wd S).1 (wd S).2.1 = k false 0 0)
  | _, 0, _, _, _, h, _, _ => by omega
  | 0, n + 1, i, S, h1, h2, h3, h4 => by
    left
    rw [List.drop_eq_nil_of_le (by omega)]
    simp only [sqs, Int.add_zero]
    refine ⟨h4, ?_⟩
    conv => lhs; unfold law93o0
    exact bifF (by rw [decide_eq_false_iff_not]; simp only; omega)
  | j + 1, n + 1, i, S, h1, h2, h3, h4 => by
    have hi : i < l.length := by omega
    have ha := hl _ (List.getElem_mem hi)
    have hs := sq64 ha
    have h0 := sq_nn l[i]
    rw [List.drop_eq_getElem_cons hi]
    simp only [sqs]
    have e2 : fn69 (l[i], l[i], ()) = some (wd (l[i] * l[i]), ()) := mul39 (l[i], l[i], ()) ha ha
    have head : ∀ (X : Option (MT × (Int × Unit))) (f : IntT × Bool × Unit → Option (MT × (Int × Unit))), True := fun _ _ => trivial
    by_cases hf : S + l[i] * l[i] < 170141183460469231731687303715884105728
    · have e3 : fn70 (wd S, wd (l[i] * l[i]), ()) = some (wd (S + l[i] * l[i]), true, ()) := add33 S (l[i] * l[i]) (by unfold I128; omega) (by unfold I128; omega) (by unfold I128; omega)
      have step : law93o0 N m (l, ()) k (n + 1) true i (wd S).1 (wd S).2.1 = law93o0 N m (l, ()) k n true ((i + 1 : Nat) : Int) (wd (S + l[i] * l[i])).1 (wd (S + l[i] * l[i])).2.1 := by
        conv => lhs; unfold law93o0
        refine (bifT (by rw [decide_eq_true_eq]; simp only; omega)).trans ((bifT (by rw [Bool.and_eq_true, decide_eq_true_eq, decide_eq_true_eq]; simp only; omega)).trans ((bindT (v := l[i]) (by rw [Int.toNat_natCast]; exact List.getElem?_eq_getElem hi)).trans ((bindT e2).trans ((bindT e3).trans ((bifF rfl).trans ?_)))))
        rw [show IntKind.i64.wrap ((i : Int) + 1) = ((i + 1 : Nat) : Int) from by rw [IntKind.wrap_i64]; omega]
      rw [step]
      have ih := len_loop N m l k hl hlen j n (i + 1) (S + l[i] * l[i]) (by omega) (by omega) (by omega) hf
      rw [Int.add_assoc] at ih
      exact ih
    · right
      refine ⟨by have := sqs_nn (l.drop (i + 1)); omega, ?_⟩
      have e3 : fn70 (wd S, wd (l[i] * l[i]), ()) = some ((0, 0, ()), false, ()) := add71o S (l[i] * l[i]) ⟨h3, h4⟩ ⟨h0, by omega⟩ hf
      conv => lhs; unfold law93o0
      exact (bifT (by rw [decide_eq_true_eq]; simp only; omega)).trans ((bifT (by rw [Bool.and_eq_true, decide_eq_true_eq, decide_eq_true_eq]; simp only; omega)).trans ((bindT (v := l[i]) (by rw [Int.toNat_natCast]; exact List.getElem?_eq_getElem hi)).trans ((bindT e2).trans ((bindT e3).trans (bifT rfl)))))
end Go.Proofs.YtkobnmpilcpojaaGreat
