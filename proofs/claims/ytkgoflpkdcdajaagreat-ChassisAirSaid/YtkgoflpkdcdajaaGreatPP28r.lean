/- Plain Lean: what the laws of this program's functions come to, in numbers and lists; no program is run here. -/
import Derived.Test.YtkgoflpkdcdajaaGreatPP28b
set_option linter.unusedVariables false
set_option linter.unusedSimpArgs false
set_option maxRecDepth 100000
namespace Go.Proofs.YtkgoflpkdcdajaaGreat
open Go Go.Ab Go.Proofs Go.IntWalk
/- Square roots and lengths of two parts in plain Lean (r26). -/
theorem below60 (a b c d : Int) (h1 : 0 ≤ b ∧ b < 18446744073709551616) (h2 : 0 ≤ d ∧ d < 18446744073709551616) : fn142 ((a, b, ()), (c, d, ()), ()) = some (decide (a * 18446744073709551616 + b < c * 18446744073709551616 + d), ()) := by
  unfold fn142 law142
  simp only
  by_cases k1 : a < c
  · rw [decide_eq_true k1, decide_eq_true (show a * 18446744073709551616 + b < c * 18446744073709551616 + d by omega)]; rfl
  · rw [decide_eq_false k1]
    by_cases k2 : a = c
    · subst k2
      simp only [beq_self_eq_true, cond_true, cond_false]
      by_cases k3 : b < d
      · rw [decide_eq_true k3, decide_eq_true (show a * 18446744073709551616 + b < a * 18446744073709551616 + d by omega)]
      · rw [decide_eq_false k3, decide_eq_false (show ¬ (a * 18446744073709551616 + b < a * 18446744073709551616 + d) by omega)]
    · rw [show (a == c) = false by simpa using k2, decide_eq_false (show ¬ (a * 18446744073709551616 + b < c * 18446744073709551616 + d) by omega)]; rfl
theorem root_step (V lo hi mid : Int) (h1 : 1 ≤ lo) (h2 : lo < hi) (h3 : hi ≤ 13835058055282163712) (hm : mid = lo + (hi - lo + 1) / 2) : IntKind.u64.wrap (lo + IntKind.u64.wrap ((IntKind.u64.wrap (IntKind.u64.wrap (hi - lo) + 1)).tdiv 2)) = mid := by
  rw [u64in (hi - lo) (by omega), u64in (hi - lo + 1) (by omega), Int.tdiv_eq_ediv_of_nonneg (by omega), u64in ((hi - lo + 1) / 2) (by omega), u64in _ (by omega), hm]
theorem root_loop {β : Type} (N : Nat) (V : Int) (hV : 0 < V ∧ V < 170141183460469231731687303715884105728) (k : Int → Option β) : ∀ (n : Nat) (lo hi : Int), 1 ≤ lo → lo ≤ hi → hi ≤ 13835058055282163712 → lo * lo ≤ V → V < (hi + 1) * (hi + 1) → (hi - lo).toNat < n →
    ∃ r, law113o0 N (wd V, ()) k n lo hi = k r ∧ 1 ≤ r ∧ r ≤ 13835058055282163712 ∧ r * r ≤ V ∧ V < (r + 1) * (r + 1)
  | 0, lo, hi, _, _, _, _, _, h => by omega
  | n + 1, lo, hi, h1, h2, h3, h4, h5, h6 => by
    conv => congr; intro r; lhs; lhs; unfold law113o0
    by_cases hlt : lo < hi
    · obtain ⟨mid, hmid⟩ : ∃ mid, mid = lo + (hi - lo + 1) / 2 := ⟨_, rfl⟩
      have hm := root_step V lo hi mid h1 hlt h3 hmid
      have hmr : lo < mid ∧ mid ≤ hi := by omega
      have hmm := mul62 mid mid (by omega) (by omega)
      unfold fn115 law115 at hmm
      injection hmm with hmm
      injection hmm with e1 e2
      injection e2 with e2 _
      have hsq : 0 ≤ mid * mid := Int.mul_nonneg (by omega) (by omega)
      simp only [decide_eq_true hlt, cond_true, hm, e1, e2]
      have hx : (IntKind.u64.wrap (wd V).fst, (wd V).snd) = (V / 18446744073709551616, V % 18446744073709551616, ()) := by
        unfold wd
        rw [u64in _ (by omega)]
      rw [hx, below60 _ _ _ _ (by omega) (by omega)]
      simp only [Option.bind_some]
      have q1 : V / 18446744073709551616 * 18446744073709551616 + V % 18446744073709551616 = V := by omega
      have q2 : mid * mid / 18446744073709551616 * 18446744073709551616 + mid * mid % 18446744073709551616 = mid * mid := by omega
      rw [q1, q2]
      by_cases hb : V < mid * mid
      · rw [decide_eq_true hb]
        simp only [cond_true]
        rw [u64in (mid - 1) (by omega)]
        refine root_loop N V hV k n lo (mid - 1) h1 (by omega) (by omega) h4 ?_ (by omega)
        rw [Int.sub_add_cancel]; exact hb
      · rw [decide_eq_false hb]
        simp only [cond_false]
        exact root_loop N V hV k n mid hi (by omega) (by omega) h3 (by omega) h5 (by omega)
    · simp only [decide_eq_false hlt, cond_false]
      have : lo = hi := by omega
      subst this
      exact ⟨lo, rfl, h1, h3, h4, h5⟩
theorem root39 (V : Int) (hV : 0 ≤ V ∧ V < 170141183460469231731687303715884105728) : ∃ r, fn113 (wd V, ()) = some (r, ()) ∧ 0 ≤ r ∧ r ≤ 13835058055282163712 ∧ r * r ≤ V ∧ V < (r + 1) * (r + 1) := by
  unfold fn113 law113
  have hn : ¬ (wd V).fst < 0 := by unfold wd; simp only; omega
  rw [decide_eq_false (show ¬ (wd V, ()).fst.fst < 0 from hn)]
  by_cases h0 : V = 0
  · subst h0
    exact ⟨0, rfl, by omega, by omega, by omega, by omega⟩
  have hz : ((wd V).fst == 0 && (wd V).snd.fst == 0) = false := by
    unfold wd
    simp only [Bool.and_eq_false_iff, beq_eq_false_iff_ne, ne_eq]
    omega
  show ∃ r, (bif ((wd V).fst == 0 && (wd V).snd.fst == 0) then _ else law113o0 _ _ _ _ _ _) = _ ∧ _
  rw [hz]
  obtain ⟨r, e, h1, h2, h3, h4⟩ := root_loop (10 ^ 30) V (by omega) (fun w9 => (some ((w9, ())) : Option (Int × Unit))) (10 ^ 30) 1 13835058055282163712 (by omega) (by omega) (by omega) (by omega) (by omega) (by decide)
  exact ⟨r, e, by omega, h2, h3, h4⟩
theorem sq_nn (a : Int) : 0 ≤ a * a := by
  rcases Int.le_total 0 a with h | h
  · exact Int.mul_nonneg h h
  · exact Int.mul_nonneg_of_nonpos_of_nonpos h h
theorem lx68 (N : Nat) (hN : 3 ≤ N) (o : Bool) (a b : Int) (ha : -4611686018427387904 ≤ a ∧ a ≤ 4611686018427387904) (hb : -4611686018427387904 ≤ b ∧ b ≤ 4611686018427387904) : ∃ r, law68 N (o, ()) ([a, b], ()) = some (res (o, r)) ∧ 0 ≤ r ∧ r ≤ 9223372036854775807 ∧ r * r ≤ a * a + b * b ∧ a * a + b * b < (r + 1) * (r + 1) := by
  obtain ⟨M, rfl⟩ : ∃ M, N = M + 3 := ⟨N - 3, by omega⟩
  have pa := prod_le (a := a) (b := a) (A := 4611686018427387904) (B := 4611686018427387904) (by omega) (by omega)
  have pb := prod_le (a := b) (b := b) (A := 4611686018427387904) (B := 4611686018427387904) (by omega) (by omega)
  have sa := sq_nn a
  have sb := sq_nn b
  have e1 : fn70 (a, a, ()) = some (wd (a * a), ()) := mul39 (a, a, ()) (show I64 a by unfold I64; omega) (show I64 a by unfold I64; omega)
  have e2 : fn70 (b, b, ()) = some (wd (b * b), ()) := mul39 (b, b, ()) (show I64 b by unfold I64; omega) (show I64 b by unfold I64; omega)
  have z : wd 0 = (0, 0, ()) := rfl
  have e3 : fn71 ((0, 0, ()), wd (a * a), ()) = some (wd (a * a), true, ()) := by
    have := add33 0 (a * a) (i128_of (by omega)) (i128_of (by omega)) (i128_of (by omega))
    rw [z, Int.zero_add] at this; exact this
  have e4 : fn71 (wd (a * a), wd (b * b), ()) = some (wd (a * a + b * b), true, ()) := add33 (a * a) (b * b) (i128_of (by omega)) (i128_of (by omega)) (i128_of (by omega))
  obtain ⟨r, e5, r0, r1, r2, r3⟩ := root39 (a * a + b * b) (by omega)
  have hr : r ≤ 9223372036854775807 := by
    rcases Int.lt_or_le 9223372036854775807 r with h | h
    · exfalso
      have : (9223372036854775808 : Int) * 9223372036854775808 ≤ r * r := Int.mul_le_mul h h (by decide) (by omega)
      omega
    · exact h
  refine ⟨r, ?_, r0, hr, r2, r3⟩
  have hwd : ∀ v : Int, ((wd v).fst, (wd v).snd.fst, ()) = wd v := fun v => rfl
  unfold law68
  have step2 : ∀ (k : Bool → Int → Int → Option ((Bool × Unit) × (Int × Unit))) (t : Bool) (p q : Int), law68o0 (M + 3) (o, ()) ([a, b], ()) k (M + 1) t 2 p q = k t p q := fun k t p q => by
    conv => lhs; unfold law68o0
    rw [show decide ((2 : Int) < (([a, b], ()).fst.length : Int)) = false from rfl]; rfl
  have step1 : ∀ (k : Bool → Int → Int → Option ((Bool × Unit) × (Int × Unit))) (t : Bool), law68o0 (M + 3) (o, ()) ([a, b], ()) k (M + 2) t 1 (wd (a * a)).fst (wd (a * a)).snd.fst = k true (wd (a * a + b * b)).fst (wd (a * a + b * b)).snd.fst := fun k t => by
    conv => lhs; unfold law68o0
    rw [show decide ((1 : Int) < (([a, b], ()).fst.length : Int)) = true from rfl]
    show Option.bind (fn70 (b, b, ())) _ = _
    simp only [e2, Option.bind_some, hwd]
    show Option.bind (fn71 (wd (a * a), wd (b * b), ())) _ = _
    simp only [e4, Option.bind_some]
    exact step2 k true _ _
  have step0 : ∀ (k : Bool → Int → Int → Option ((Bool × Unit) × (Int × Unit))), law68o0 (M + 3) (o, ()) ([a, b], ()) k (M + 3) true 0 0 0 = k true (wd (a * a + b * b)).fst (wd (a * a + b * b)).snd.fst := fun k => by
    conv => lhs; unfold law68o0
    rw [show decide ((0 : Int) < (([a, b], ()).fst.length : Int)) = true from rfl]
    show Option.bind (fn70 (a, a, ())) _ = _
    simp only [e1, Option.bind_some, hwd]
    show Option.bind (fn71 ((0, 0, ()), wd (a * a), ())) _ = _
    simp only [e3, Option.bind_some]
    exact step1 k true
  refine (step0 _).trans ?_
  show Option.bind (fn113 (wd (a * a + b * b), ())) _ = _
  simp only [e5, Option.bind_some, Bool.not_true, cond_false]
  have k1 : ¬ r > 9223372036854775807 := by omega
  simp only [k1, decide_false, cond_false]
  rw [i64_in r (by omega)]; rfl
end Go.Proofs.YtkgoflpkdcdajaaGreat
