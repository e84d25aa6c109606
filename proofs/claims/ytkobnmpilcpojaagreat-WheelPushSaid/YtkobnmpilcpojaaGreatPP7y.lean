/- Plain Lean: what the laws of this program's functions come to, in numbers and lists; no program is run here. -/
import Derived.Test.YtkobnmpilcpojaaGreatPP7x
set_option linter.unusedVariables false
set_option linter.unusedSimpArgs false
set_option maxRecDepth 100000
namespace Go.Proofs.YtkobnmpilcpojaaGreat
open Go Go.Ab Go.Proofs
theorem bindT' {α β : Type} {o : Option α} {v : α} {f : α → Option β} (h : o = some v) : Option.bind o f = f v := by subst h; rfl
theorem bits149 (N0 : Nat) (g : Bool) (a b c d : Int) (hd : dig [a, b, c, d]) (k : Int → Option (Int × Unit)) : ∀ (j n : Nat) (cur : Int), j ≤ 64 → j < n → 0 ≤ cur → cur + 2 ^ j ≤ 18446744073709551616 → cur * cur ≤ lv [a, b, c, d] → lv [a, b, c, d] < (cur + 2 ^ j) * (cur + 2 ^ j) →
    ∃ r, law178o0 N0 ((g, (a, b, c, d, ()), ()), ()) k n cur ((j : Int) - 1) = k r ∧ 0 ≤ r ∧ r < 18446744073709551616 ∧ r * r ≤ lv [a, b, c, d] ∧ lv [a, b, c, d] < (r + 1) * (r + 1)
  | _, 0, _, _, h, _, _, _, _ => by omega
  | 0, n + 1, cur, hj, hn, h0, h1, h2, h3 => by
    simp only [Int.pow_zero] at h1 h3
    refine ⟨cur, ?_, h0, by omega, h2, h3⟩
    unfold law178o0
    exact bifF' (by rw [decide_eq_false_iff_not]; omega)
  | j + 1, n + 1, cur, hj, hn, h0, h1, h2, h3 => by
    have hp : (2 : Int) ^ (j + 1) = 2 * 2 ^ j := by rw [Int.pow_succ]; omega
    have hpos : (0 : Int) < 2 ^ j := Int.pow_pos (by decide)
    generalize hP : (2 : Int) ^ j = P at hp hpos
    rw [hp] at h1 h3
    have ei : (((j + 1 : Nat) : Int) - 1) = (j : Int) := by omega
    rw [ei]
    have ew : IntKind.u64.wrap (j : Int) = (j : Int) := w64 _ (by omega)
    have em : IntKind.u64.wrap (cur + IntKind.u64.wrap (1 * 2 ^ min (IntKind.u64.wrap (j : Int)).toNat 64)) = cur + P := by
      rw [ew, Int.toNat_natCast, Nat.min_eq_left (by omega), Int.one_mul, hP, w64 P (by omega), w64 _ (by omega)]
    have edec : IntKind.i64.wrap ((j : Int) - 1) = (j : Int) - 1 := by rw [IntKind.wrap_i64]; omega
    obtain ⟨p, q, r, s, e165, dg, hv⟩ := square165 (cur + P) (by omega)
    have e159 := less159 hd dg
    rw [hv] at e159
    unfold law178o0
    simp only [em, edec]
    by_cases hl : lv [a, b, c, d] < (cur + P) * (cur + P)
    · rw [decide_eq_true hl] at e159
      obtain ⟨z, k1, k2⟩ := bits149 N0 g a b c d hd k j n cur (by omega) (by omega) h0 (by rw [hP]; omega) h2 (by rw [hP]; exact hl)
      refine ⟨z, ?_, k2⟩
      exact (bifT' (by rw [decide_eq_true_eq]; omega)).trans ((bifT' (by rw [decide_eq_true_eq, ew]; omega)).trans ((bindT' e165).trans ((bindT' e159).trans ((bifF' rfl).trans k1))))
    · rw [decide_eq_false hl] at e159
      obtain ⟨z, k1, k2⟩ := bits149 N0 g a b c d hd k j n (cur + P) (by omega) (by omega) (by omega) (by rw [hP]; omega) (by omega) (by rw [hP, show cur + P + P = cur + 2 * P by omega]; exact h3)
      refine ⟨z, ?_, k2⟩
      exact (bifT' (by rw [decide_eq_true_eq]; omega)).trans ((bifT' (by rw [decide_eq_true_eq, ew]; omega)).trans ((bindT' e165).trans ((bindT' e159).trans ((bifT' rfl).trans k1))))
theorem zero161 (g : Bool) {a b c d : Int} (hd : dig [a, b, c, d]) : fn199 ((g, (a, b, c, d, ()), ()), ()) = some (decide (lv [a, b, c, d] = 0), ()) := by
  have ha := hd a (by simp); have hb := hd b (by simp); have hc := hd c (by simp); have hdd := hd d (by simp)
  have eL : lv [a, b, c, d] = a + 4294967296 * (b + 4294967296 * (c + 4294967296 * (d + 4294967296 * 0))) := rfl
  generalize lv [a, b, c, d] = L at eL ⊢
  have fin : ∀ {x y : Bool}, x = y → (some (x, ()) : Option (Bool × Unit)) = some (y, ()) := fun h => by rw [h]
  have t : ∀ u : Int, u = 0 → (u == 0) = true := fun u h => by simp [h]
  have f : ∀ u : Int, ¬ u = 0 → (u == 0) = false := fun u h => by simpa using h
  show law199 _ = _
  unfold law199
  by_cases k1 : a = 0
  · refine (bifT' (t a k1)).trans ?_
    by_cases k2 : b = 0
    · refine (bifT' (t b k2)).trans ?_
      by_cases k3 : c = 0
      · refine (bifT' (t c k3)).trans (fin ?_)
        by_cases k4 : d = 0
        · exact (t d k4).trans (decide_eq_true (by omega)).symm
        · exact (f d k4).trans (decide_eq_false (by omega)).symm
      · exact (bifF' (f c k3)).trans (fin (decide_eq_false (by omega)).symm)
    · exact (bifF' (f b k2)).trans (fin (decide_eq_false (by omega)).symm)
  · exact (bifF' (f a k1)).trans (fin (decide_eq_false (by omega)).symm)
theorem root149 {a b c d : Int} (hd : dig [a, b, c, d]) : ∃ r, fn178 ((false, (a, b, c, d, ()), ()), ()) = some (r, ()) ∧ 0 ≤ r ∧ r < 18446744073709551616 ∧ r * r ≤ lv [a, b, c, d] ∧ lv [a, b, c, d] < (r + 1) * (r + 1) := by
  have hz := zero161 false hd
  obtain ⟨l0, l1⟩ := lv_dig _ hd
  simp only [List.length_cons, List.length_nil] at l1
  show ∃ r, law178 (10 ^ 30) _ = _ ∧ _
  unfold law178
  by_cases h0 : lv [a, b, c, d] = 0
  · rw [decide_eq_true h0] at hz
    have hs : fn202 ((false, (a, b, c, d, ()), ()), ()) = some (0, ()) := by
      show law202 _ = _
      unfold law202
      exact (bindT' hz).trans (bifT' rfl)
    exact ⟨0, (bindT' hs).trans (bifT' rfl), by omega, by omega, by omega, by omega⟩
  · rw [decide_eq_false h0] at hz
    have hs : fn202 ((false, (a, b, c, d, ()), ()), ()) = some (1, ()) := by
      show law202 _ = _
      unfold law202
      exact (bindT' hz).trans ((bifF' rfl).trans (bifF' rfl))
    have e4 : (0 + (2 : Int) ^ 64) * (0 + 2 ^ 64) = 4294967296 ^ (0 + 1 + 1 + 1 + 1) := by decide
    obtain ⟨r, e, h1, h2, h3, h4⟩ := bits149 (10 ^ 30) false a b c d hd (fun w15 => some (w15, ())) 64 (10 ^ 30) 0 (by decide) (by decide) (by decide) (by decide) (by omega) (by rw [e4]; exact l1)
    exact ⟨r, (bindT' hs).trans ((bifF' rfl).trans e), h1, h2, h3, h4⟩
end Go.Proofs.YtkobnmpilcpojaaGreat
