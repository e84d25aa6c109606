/- Plain Lean: what the laws of this program's functions come to, in numbers and lists; no program is run here. -/
import Derived.Test.YtamdbejojnfoiaaPPOk
set_option linter.unusedVariables false
set_option linter.unusedSimpArgs false
set_option maxRecDepth 100000
namespace Go.Proofs.Ytamdbejojnfoiaa
open Go Go.Ab Go.Proofs Go.IntWalk
/- CarBounds in plain Lean (r17). -/
/-- The bounds of a product of two ratios. -/
theorem ratio_bounds {a b : Int} (ha : 1073741824 ≤ a ∧ a ≤ 137438953472) (hb : 2147483648 ≤ b ∧ b ≤ 68719476736) : 536870912 ≤ mulV a b ∧ mulV a b ≤ 2199023255552 := by
  have h1 : 1073741824 * 2147483648 ≤ a * b := Int.mul_le_mul ha.1 hb.1 (by omega) (by omega)
  have h2 : a * b ≤ 137438953472 * 68719476736 := Int.mul_le_mul ha.2 hb.2 (by omega) (by omega)
  unfold mulV
  exact ⟨le_rnd (by decide) (by omega), rnd_le (by decide) (by omega)⟩
theorem ratio_tail (g r : Int) (L : Nat) (h1 : g = 0 ∨ g < -1 ∨ g > (L : Int) → r = 0) (h2 : ¬ (g = 0 ∨ g < -1 ∨ g > (L : Int)) → (r > 0 ↔ g > 0) ∧ r ≠ 0 ∧ r ≤ 2199023255552 ∧ -2199023255552 ≤ r) : (bif g == 0 then (bif r == 0 then some (true, ()) else some (false, ())) else (bif decide (g < -1) then (bif r == 0 then some (true, ()) else some (false, ())) else (bif decide (g > (L : Int)) then (bif r == 0 then some (true, ()) else some (false, ())) else (bif (decide (r > 0) == decide (g > 0)) then (bif (r != 0) then (bif decide (r ≤ 2199023255552) then (bif decide (r ≥ -2199023255552) then some (true, ()) else some (false, ())) else some (false, ())) else some (false, ())) else some (false, ()))))) = (some (true, ()) : Option (Bool × Unit)) := by
  by_cases c0 : g = 0
  · have := h1 (.inl c0)
    subst c0; subst this; rfl
  have e0 : (g == 0) = false := by simpa using c0
  by_cases c1 : g < -1
  · have := h1 (.inr (.inl c1))
    subst this
    rw [e0, decide_eq_true c1]; rfl
  by_cases c2 : g > (L : Int)
  · have := h1 (.inr (.inr c2))
    subst this
    rw [e0, decide_eq_false c1, decide_eq_true c2]; rfl
  obtain ⟨k1, k2, k3, k4⟩ := h2 (by omega)
  have e1 : (decide (r > 0) == decide (g > 0)) = true := by
    by_cases h : g > 0 <;> simp [k1, h]
  have e2 : (r != 0) = true := by simpa using k2
  rw [e0, decide_eq_false c1, decide_eq_false c2, e1, e2, decide_eq_true k3, decide_eq_true (show r ≥ -2199023255552 from k4)]; rfl
theorem true4 (c : Car) (g : Int) (hc : OkC c) : fn4 (c, g, ()) = some (true, ()) := by
  unfold fn4 law4
  obtain ⟨b, hb, hf⟩ := ex6 c hc.steer hc.rate
  refine (bindSome hb).trans ?_
  cases b
  case false => rfl
  have hf := hf rfl
  refine (bindSome (ex7 c hf)).trans ?_
  show (bif (rightR c).1 != 0 then some (true, ()) else _) = _
  cases h0 : (rightR c).1 != 0
  case true => rfl
  have h0 : (rightR c).1 = 0 := by simpa using h0
  obtain ⟨g1, g2, g3, g4, g5⟩ := gearsR_zero (c := c) (rightR_zero h0 _ (by simp [allR]))
  refine bifF ?_
  suffices h : ∃ r : Int, (g = 0 ∨ g < -1 ∨ g > (List.length (c.snd.snd.snd.snd.snd.snd.snd.snd.snd.snd.snd.snd.snd.snd.snd.snd.fst) : Int) → r = 0) ∧ (¬ (g = 0 ∨ g < -1 ∨ g > (List.length (c.snd.snd.snd.snd.snd.snd.snd.snd.snd.snd.snd.snd.snd.snd.snd.snd.fst) : Int)) → (r > 0 ↔ g > 0) ∧ r ≠ 0 ∧ r ≤ 2199023255552 ∧ -2199023255552 ≤ r) ∧ fn10 (c, g, ()) = some (r, ()) by
    obtain ⟨r, k1, k2, k3⟩ := h
    exact (bindSome k3).trans (ratio_tail g r (List.length (c.snd.snd.snd.snd.snd.snd.snd.snd.snd.snd.snd.snd.snd.snd.snd.snd.fst)) k1 k2)
  have hi : I64 (c.snd.snd.snd.snd.snd.snd.snd.snd.snd.snd.snd.snd.snd.snd.snd.snd.snd.fst) := hc.i17
  by_cases cm : g = -1
  · have w : IntKind.i64.wrap (0 - c.snd.snd.snd.snd.snd.snd.snd.snd.snd.snd.snd.snd.snd.snd.snd.fst) = -(c.snd.snd.snd.snd.snd.snd.snd.snd.snd.snd.snd.snd.snd.snd.snd.fst) := by rw [i64_in _ (by omega)]; omega
    have hn : I64 (-(c.snd.snd.snd.snd.snd.snd.snd.snd.snd.snd.snd.snd.snd.snd.snd.fst)) := by unfold I64; omega
    have hm : mulV (-(c.snd.snd.snd.snd.snd.snd.snd.snd.snd.snd.snd.snd.snd.snd.snd.fst)) (c.snd.snd.snd.snd.snd.snd.snd.snd.snd.snd.snd.snd.snd.snd.snd.snd.snd.fst) = -mulV (c.snd.snd.snd.snd.snd.snd.snd.snd.snd.snd.snd.snd.snd.snd.snd.fst) (c.snd.snd.snd.snd.snd.snd.snd.snd.snd.snd.snd.snd.snd.snd.snd.snd.snd.fst) := by unfold mulV; rw [Int.neg_mul, rnd_neg _ (by decide)]
    have hb := ratio_bounds g3 g4
    have es : mulS false (-(c.snd.snd.snd.snd.snd.snd.snd.snd.snd.snd.snd.snd.snd.snd.snd.fst)) (c.snd.snd.snd.snd.snd.snd.snd.snd.snd.snd.snd.snd.snd.snd.snd.snd.snd.fst) = (false, -mulV (c.snd.snd.snd.snd.snd.snd.snd.snd.snd.snd.snd.snd.snd.snd.snd.fst) (c.snd.snd.snd.snd.snd.snd.snd.snd.snd.snd.snd.snd.snd.snd.snd.snd.snd.fst)) := by
      unfold mulS; rw [hm, satS_in (by unfold I64; omega)]
    refine ⟨-mulV (c.snd.snd.snd.snd.snd.snd.snd.snd.snd.snd.snd.snd.snd.snd.snd.fst) (c.snd.snd.snd.snd.snd.snd.snd.snd.snd.snd.snd.snd.snd.snd.snd.snd.snd.fst), (fun h => by omega), (fun h => ⟨by omega, by omega, by omega, by omega⟩), ?_⟩
    unfold fn10 law10
    rw [cm]
    simp only [w]
    refine (bindSome (mul20 (false, ()) (-(c.snd.snd.snd.snd.snd.snd.snd.snd.snd.snd.snd.snd.snd.snd.snd.fst), c.snd.snd.snd.snd.snd.snd.snd.snd.snd.snd.snd.snd.snd.snd.snd.snd.snd.fst, ()) hn hi)).trans ?_
    show some ((mulS false (-(c.snd.snd.snd.snd.snd.snd.snd.snd.snd.snd.snd.snd.snd.snd.snd.fst)) (c.snd.snd.snd.snd.snd.snd.snd.snd.snd.snd.snd.snd.snd.snd.snd.snd.snd.fst)).2, ()) = _
    rw [es]
  · have cm' : (g == -1) = false := by simpa using cm
    by_cases c1 : g < 1
    · refine ⟨0, (fun _ => rfl), (fun h => by omega), ?_⟩
      unfold fn10 law10
      simp only [cm', cond_false, c1, decide_true, cond_true]
    · by_cases c2 : g > (List.length (c.snd.snd.snd.snd.snd.snd.snd.snd.snd.snd.snd.snd.snd.snd.snd.snd.fst) : Int)
      · refine ⟨0, (fun _ => rfl), (fun h => by omega), ?_⟩
        unfold fn10 law10
        simp only [cm', cond_false, c1, decide_false, c2, decide_true, cond_true]
      · obtain ⟨v, hv⟩ : ∃ v, (c.snd.snd.snd.snd.snd.snd.snd.snd.snd.snd.snd.snd.snd.snd.snd.snd.fst)[(g - 1).toNat]? = some v := ⟨_, List.getElem?_eq_getElem (by omega)⟩
        have hvb := g5 v (List.mem_of_getElem? hv)
        have hb := ratio_bounds hvb g4
        have es : mulS false v (c.snd.snd.snd.snd.snd.snd.snd.snd.snd.snd.snd.snd.snd.snd.snd.snd.snd.fst) = (false, mulV v (c.snd.snd.snd.snd.snd.snd.snd.snd.snd.snd.snd.snd.snd.snd.snd.snd.snd.fst)) := by
          unfold mulS; rw [satS_in (by unfold I64; omega)]
        have w : IntKind.i64.wrap (g - 1) = g - 1 := i64_in _ (by omega)
        refine ⟨mulV v (c.snd.snd.snd.snd.snd.snd.snd.snd.snd.snd.snd.snd.snd.snd.snd.snd.snd.fst), (fun h => by omega), (fun h => ⟨by omega, by omega, by omega, by omega⟩), ?_⟩
        unfold fn10 law10
        have k1 : 0 ≤ g - 1 := by omega
        have k2 : g - 1 < (List.length (c.snd.snd.snd.snd.snd.snd.snd.snd.snd.snd.snd.snd.snd.snd.snd.snd.fst) : Int) := by omega
        simp only [cm', cond_false, c1, decide_false, c2, w, k1, k2, decide_true, Bool.and_self, cond_true, hv, Option.bind_some]
        refine (bindSome (mul20 (false, ()) (v, c.snd.snd.snd.snd.snd.snd.snd.snd.snd.snd.snd.snd.snd.snd.snd.snd.snd.fst, ()) (show I64 v by unfold I64; omega) hi)).trans ?_
        show some ((mulS false v (c.snd.snd.snd.snd.snd.snd.snd.snd.snd.snd.snd.snd.snd.snd.snd.snd.snd.fst)).2, ()) = _
        rw [es]
theorem true4o (y : Sh.Ts [CarSh, .int .i64]) (hy : Sh.oks [CarSh, .int .i64] y) : fn4 y = some (true, ()) := true4 y.1 y.2.1 (okC hy.1)
end Go.Proofs.Ytamdbejojnfoiaa
