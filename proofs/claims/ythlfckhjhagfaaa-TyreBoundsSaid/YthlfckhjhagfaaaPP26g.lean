/- Plain Lean: what the laws of this program's functions come to, in numbers and lists; no program is run here. -/
import Derived.Test.YthlfckhjhagfaaaPP26b
set_option linter.unusedVariables false
set_option linter.unusedSimpArgs false
set_option maxRecDepth 100000
namespace Go.Proofs.Ythlfckhjhagfaaa
open Go Go.Ab Go.Proofs Go.IntWalk
/- TyreBounds in plain Lean (r26): slips stay in their bounds and have their signs. -/
def clampV (a lo hi : Int) : Int := if a < lo then lo else if a > hi then hi else a
theorem clamp37 (x : Int × Int × Int × Unit) : fn18 x = some (clampV x.1 x.2.1 x.2.2.1, ()) := by
  unfold fn18 law18 clampV
  by_cases h1 : x.1 < x.2.1 <;> by_cases h2 : x.1 > x.2.2.1 <;> simp [h1, h2]
theorem in6 {a k : Int} (hk : 0 ≤ k ∧ k ≤ 9223372036854775807) : fn6 (a, k, ()) = some (decide (-k ≤ a ∧ a ≤ k), ()) := by
  unfold fn6 law6
  have e : IntKind.i64.wrap (0 - k) = -k := by rw [i64_in _ (by omega)]; omega
  rw [e]
  by_cases c : a ≤ k
  · rw [decide_eq_true (p := a ≤ k) c]
    by_cases d : -k ≤ a
    · rw [decide_eq_true (show a ≥ -k from d), decide_eq_true (show -k ≤ a ∧ a ≤ k from ⟨d, c⟩)]; rfl
    · rw [decide_eq_false (show ¬ a ≥ -k from d), decide_eq_false (show ¬ (-k ≤ a ∧ a ≤ k) from fun h => d h.1)]; rfl
  · rw [decide_eq_false (p := a ≤ k) c, decide_eq_false (show ¬ (-k ≤ a ∧ a ≤ k) from fun h => c h.2)]; rfl
theorem clamp4 (q : Int) : -17179869184 ≤ clampV q (-17179869184) 17179869184 ∧ clampV q (-17179869184) 17179869184 ≤ 17179869184 ∧ (0 ≤ q → 0 ≤ clampV q (-17179869184) 17179869184) ∧ (q ≤ 0 → clampV q (-17179869184) 17179869184 ≤ 0) := by
  unfold clampV
  split
  · omega
  · split <;> omega
theorem slip8 (a b r : Int) (ha : -4503599627370496 ≤ a ∧ a ≤ 4503599627370496) (hb : -4503599627370496 ≤ b ∧ b ≤ 4503599627370496) (hr : -4503599627370496 ≤ r ∧ r ≤ 4503599627370496) :
    ∃ p q : Int, fn8 (false, ()) (a, b, r, ()) = some ((false, ()), p, q, ()) ∧ (-17179869184 ≤ p ∧ p ≤ 17179869184) ∧ (-17179869184 ≤ q ∧ q ≤ 17179869184) ∧ (a ≤ r → 0 ≤ p) ∧ (r ≤ a → p ≤ 0) ∧ (0 ≤ b → 0 ≤ q) := by
  obtain ⟨v, ev, v0, vk, _⟩ := absF (o := false) (a := a) (k := 4503599627370496) ha (by decide)
  have h1 : fn16 (false, ()) (a, ()) = some (res (false, v)) := by rw [abs14 (false, ()) (a, ()) (show I64 a by unfold I64; omega)]; show some (res (absS false a)) = _; rw [ev]
  have h2 : fn20 (false, ()) (r, a, ()) = some (res (false, r - a)) := by rw [sub16 (false, ()) (r, a, ()) (show I64 r by unfold I64; omega) (show I64 a by unfold I64; omega)]; show some (res (subS false r a)) = _; rw [subF (by unfold I64; omega)]
  obtain ⟨s, hsd⟩ : ∃ s : Int, (if 4294967296 > v then 4294967296 else v) = s := ⟨_, rfl⟩
  have hs : 4294967296 ≤ (if 4294967296 > v then 4294967296 else v) ∧ (if 4294967296 > v then 4294967296 else v) ≤ 4503599627370496 := by split <;> omega
  rw [hsd] at hs
  have h3 : ∀ d : Int, -9007199254740992 ≤ d ∧ d ≤ 9007199254740992 → fn19 (false, ()) (d, s, ()) = some (res (false, divV d s)) := fun d hd => by
    have q := divV_in (a := d) (b := s) (A := 9007199254740992) (b0 := 4294967296) (k := 9007199254740992) hd hs.1 (by decide) (by decide) (by decide)
    rw [div30 (false, ()) (d, s, ()) (show I64 d by unfold I64; omega) (show I64 s by unfold I64; omega)]
    show some (res (divS false d s)) = _
    rw [divF (by omega) (by unfold I64; omega)]
  have pa : a ≤ r → 0 ≤ divV (r - a) s := fun h => divV_pos (by omega) (by omega)
  have pb : r ≤ a → divV (r - a) s ≤ 0 := fun h => divV_neg (by omega) (by omega)
  have pc : 0 ≤ b → 0 ≤ divV b s := fun h => divV_pos (by omega) h
  have c1 := clamp4 (divV (r - a) s)
  have c2 := clamp4 (divV b s)
  refine ⟨_, _, ?_, ⟨c1.1, c1.2.1⟩, ⟨c2.1, c2.2.1⟩, fun h => c1.2.2.1 (pa h), fun h => c1.2.2.2 (pb h), fun h => c2.2.2.1 (pc h)⟩
  have g1 := h3 (r - a) (by omega)
  have g2 := h3 b (by omega)
  unfold fn8 law8
  by_cases hc : 4294967296 > v
  · rw [if_pos hc] at hsd
    rw [← hsd] at g1 g2 ⊢
    simp only [h1, Option.bind_some, res_1, res_2, h2, hc, if_true, g1, g2, clamp37]
  · rw [if_neg hc] at hsd
    rw [← hsd] at g1 g2 ⊢
    simp only [h1, Option.bind_some, res_1, res_2, h2, hc, if_false, g1, g2, clamp37]
theorem true3 (a b r : Int) : fn3 ((a, b, r, ()), ()) = some (true, ()) := by
  unfold fn3 law3
  simp only [in6 (k := 4503599627370496) (by decide), Option.bind_some]
  by_cases ha : -4503599627370496 ≤ a ∧ a ≤ 4503599627370496
  case neg => rw [decide_eq_false ha]; rfl
  rw [decide_eq_true ha]
  by_cases hb : -4503599627370496 ≤ b ∧ b ≤ 4503599627370496
  case neg => rw [decide_eq_false hb]; rfl
  rw [decide_eq_true hb]
  by_cases hr : -4503599627370496 ≤ r ∧ r ≤ 4503599627370496
  case neg => rw [decide_eq_false hr]; rfl
  rw [decide_eq_true hr]
  obtain ⟨p, q, e, hp, hq, h1, h2, h3⟩ := slip8 a b r ha hb hr
  simp only [Bool.not_true, cond_false, e, Option.bind_some, in6 (k := 17179869184) (by decide)]
  rw [decide_eq_true hp]
  simp only [cond_true, Option.bind_some]
  rw [decide_eq_true hq]
  simp only [cond_true, Bool.not_false]
  by_cases k1 : r < a
  · have k2 : ¬ r > a := by omega
    have k4 : p ≤ 0 := h2 (by omega)
    simp only [k1, k2, k4, decide_true, decide_false, cond_true, cond_false]
    by_cases k3 : b < 0
    · simp only [k3, decide_true, cond_true]
    · have k5 : q ≥ 0 := h3 (by omega)
      simp only [k3, k5, decide_true, decide_false, cond_true, cond_false]
  · have k4 : p ≥ 0 := h1 (by omega)
    simp only [k1, k4, decide_true, decide_false, cond_true, cond_false]
    by_cases k2 : r > a
    · simp only [k2, decide_true, cond_true]
      by_cases k3 : b < 0
      · simp only [k3, decide_true, cond_true]
      · have k5 : q ≥ 0 := h3 (by omega)
        simp only [k3, k5, decide_true, decide_false, cond_true, cond_false]
    · have k6 : p ≤ 0 := h2 (by omega)
      simp only [k2, k6, decide_true, decide_false, cond_true, cond_false]
      by_cases k3 : b < 0
      · simp only [k3, decide_true, cond_true]
      · have k5 : q ≥ 0 := h3 (by omega)
        simp only [k3, k5, decide_true, decide_false, cond_true, cond_false]
theorem true3o (y : Sh.Ts [.st [.int .i64, .int .i64, .int .i64]]) (hy : Sh.oks [.st [.int .i64, .int .i64, .int .i64]] y) : fn3 y = some (true, ()) := true3 y.1.1 y.1.2.1 y.1.2.2.1

end Go.Proofs.Ythlfckhjhagfaaa
