/- Plain Lean: what the laws of this program's functions come to, in numbers and lists; no program is run here. -/
import Derived.Test.YtkobnmpilcpojaaGreatPPFit
set_option linter.unusedVariables false
set_option linter.unusedSimpArgs false
set_option maxRecDepth 100000
namespace Go.Proofs.YtkobnmpilcpojaaGreat
open Go Go.Ab Go.Proofs Go.IntWalk
theorem below60 (a b c d : Int) (h1 : 0 ≤ b ∧ b < 18446744073709551616) (h2 : 0 ≤ d ∧ d < 18446744073709551616) : fn159 ((a, b, ()), (c, d, ()), ()) = some (decide (a * 18446744073709551616 + b < c * 18446744073709551616 + d), ()) := by
  unfold fn159 law159
  simp only
  by_cases k1 : a < c
  · rw [decide_eq_true k1, decide_eq_true (show a * 18446744073709551616 + b < c * 18446744073709551616 + d by omega)]; rfl
  · rw [decide_eq_false k1]
    by_cases k2 : a = c
    · subst k2
      simp only [beq_self_eq_true, cond_true, cond_false]
      by_cases k3 : b < d
      · rw [decide_eq_true k3, decide_eq_true (show a * 18446744073709551616 + b < a * 18446744073709551616 + d by omega)]
      · rw [decide_eq_false k3, decide_eq_false (show ¬ (a * 18446744073709551616 + b < a * 18446744073709551616 + d) by omega)]
    · rw [show (a == c) = false by simpa using k2, decide_eq_false (show ¬ (a * 18446744073709551616 + b < c * 18446744073709551616 + d) by omega)]; rfl
theorem root_step (V lo hi mid : Int) (h1 : 1 ≤ lo) (h2 : lo < hi) (h3 : hi ≤ 13835058055282163712) (hm : mid = lo + (hi - lo + 1) / 2) : IntKind.u64.wrap (lo + IntKind.u64.wrap ((IntKind.u64.wrap (IntKind.u64.wrap (hi - lo) + 1)).tdiv 2)) = mid := by
  rw [u64in (hi - lo) (by omega), u64in (hi - lo + 1) (by omega), Int.tdiv_eq_ediv_of_nonneg (by omega), u64in ((hi - lo + 1) / 2) (by omega), u64in _ (by omega), hm]
theorem root_loop {β : Type} (N : Nat) (V : Int) (hV : 0 < V ∧ V < 170141183460469231731687303715884105728) (k : Int → Option β) : ∀ (n : Nat) (lo hi : Int), 1 ≤ lo → lo ≤ hi → hi ≤ 13835058055282163712 → lo * lo ≤ V → V < (hi + 1) * (hi + 1) → (hi - lo).toNat < n →
    ∃ r, law134o0 N (wd V, ()) k n lo hi = k r ∧ 1 ≤ r ∧ r ≤ 13835058055282163712 ∧ r * r ≤ V ∧ V < (r + 1) * (r + 1)
  | 0, lo, hi, _, _, _, _, _, h => by omega
  | n + 1, lo, hi, h1, h2, h3, h4, h5, h6 => by
    conv => congr; intro r; lhs; lhs; unfold law134o0
    by_cases hlt : lo < hi
    · obtain ⟨mid, hmid⟩ : ∃ mid, mid = lo + (hi - lo + 1) / 2 := ⟨_, rfl⟩
      have hm := root_step V lo hi mid h1 hlt h3 hmid
      have hmr : lo < mid ∧ mid ≤ hi := by omega
      have hmm := mul62 mid mid (by omega) (by omega)
      unfold fn127 law127 at hmm
      injection hmm with hmm
      injection hmm with e1 e2
      injection e2 with e2 _
      have hsq : 0 ≤ mid * mid := Int.mul_nonneg (by omega) (by omega)
      simp only [decide_eq_true hlt, cond_true, hm, e1, e2]
      have hx : (IntKind.u64.wrap (wd V).fst, (wd V).snd) = (V / 18446744073709551616, V % 18446744073709551616, ()) := by
        unfold wd
        rw [u64in _ (by omega)]
      rw [hx, below60 _ _ _ _ (by omega) (by omega)]
      simp only [Option.bind_some]
      have q1 : V / 18446744073709551616 * 18446744073709551616 + V % 18446744073709551616 = V := by omega
      have q2 : mid * mid / 18446744073709551616 * 18446744073709551616 + mid * mid % 18446744073709551616 = mid * mid := by omega
      rw [q1, q2]
      by_cases hb : V < mid * mid
      · rw [decide_eq_true hb]
        simp only [cond_true]
        rw [u64in (mid - 1) (by omega)]
        refine root_loop N V hV k n lo (mid - 1) h1 (by omega) (by omega) h4 ?_ (by omega)
        rw [Int.sub_add_cancel]; exact hb
      · rw [decide_eq_false hb]
        simp only [cond_false]
        exact root_loop N V hV k n mid hi (by omega) (by omega) h3 (by omega) h5 (by omega)
    · simp only [decide_eq_false hlt, cond_false]
      have : lo = hi := by omega
      subst this
      exact ⟨lo, rfl, h1, h3, h4, h5⟩
theorem root39 (V : Int) (hV : 0 ≤ V ∧ V < 170141183460469231731687303715884105728) : ∃ r, fn134 (wd V, ()) = some (r, ()) ∧ 0 ≤ r ∧ r ≤ 13835058055282163712 ∧ r * r ≤ V ∧ V < (r + 1) * (r + 1) := by
  unfold fn134 law134
  have hn : ¬ (wd V).fst < 0 := by unfold wd; simp only; omega
  rw [decide_eq_false (show ¬ (wd V, ()).fst.fst < 0 from hn)]
  by_cases h0 : V = 0
  · subst h0
    exact ⟨0, rfl, by omega, by omega, by omega, by omega⟩
  have hz : ((wd V).fst == 0 && (wd V).snd.fst == 0) = false := by
    unfold wd
    simp only [Bool.and_eq_false_iff, beq_eq_false_iff_ne, ne_eq]
    omega
  show ∃ r, (bif ((wd V).fst == 0 && (wd V).snd.fst == 0) then _ else law134o0 _ _ _ _ _ _) = _ ∧ _
  rw [hz]
  obtain ⟨r, e, h1, h2, h3, h4⟩ := root_loop (10 ^ 30) V (by omega) (fun w9 => (some ((w9, ())) : Option (Int × Unit))) (10 ^ 30) 1 13835058055282163712 (by omega) (by omega) (by omega) (by omega) (by omega) (by decide)
  exact ⟨r, e, by omega, h2, h3, h4⟩
theorem sq_nn (a : Int) : 0 ≤ a * a := by
  rcases Int.le_total 0 a with h | h
  · exact Int.mul_nonneg h h
  · exact Int.mul_nonneg_of_nonpos_of_nonpos h h
end Go.Proofs.YtkobnmpilcpojaaGreat
