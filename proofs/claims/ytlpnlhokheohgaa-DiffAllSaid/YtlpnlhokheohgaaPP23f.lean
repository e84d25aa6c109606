/- Plain Lean: what the laws of this program's functions come to, in numbers and lists; no program is run here. -/
import Derived.Test.YtlpnlhokheohgaaPP23w
set_option linter.unusedVariables false
set_option linter.unusedSimpArgs false
set_option maxRecDepth 100000
namespace Go.Proofs.Ytlpnlhokheohgaa
open Go Go.Ab Go.Proofs Go.IntWalk
/- DiffSlows, DiffHolds in plain Lean (r23). -/
theorem clamp24 (x : Int × Int × Int × Unit) : fn24 x = some (clampW x.1 x.2.1 x.2.2.1, ()) := by
  unfold fn24 law24 clampW
  by_cases h1 : x.1 < x.2.1 <;> by_cases h2 : x.1 > x.2.2.1 <;> simp [h1, h2]
theorem in8 {a k : Int} (hk : 0 ≤ k ∧ k ≤ 9223372036854775807) : fn8 (a, k, ()) = some (decide (-k ≤ a ∧ a ≤ k), ()) := by
  unfold fn8 law8
  have e : IntKind.i64.wrap (0 - k) = -k := by rw [i64_in _ (by omega)]; omega
  rw [e]
  by_cases c : a ≤ k
  · rw [decide_eq_true (p := a ≤ k) c]
    by_cases d : -k ≤ a
    · rw [decide_eq_true (show a ≥ -k from d), decide_eq_true (show -k ≤ a ∧ a ≤ k from ⟨d, c⟩)]; rfl
    · rw [decide_eq_false (show ¬ a ≥ -k from d), decide_eq_false (show ¬ (-k ≤ a ∧ a ≤ k) from fun h => d h.1)]; rfl
  · rw [decide_eq_false (p := a ≤ k) c, decide_eq_false (show ¬ (-k ≤ a ∧ a ≤ k) from fun h => c h.2)]; rfl
theorem firstR_head {a : Int} {l : List Int} (h : firstR (a :: l) = 0) : a = 0 := by
  unfold firstR at h
  simp only [scanL] at h
  cases hq : a != 0 with
  | false => simpa using hq
  | true =>
    rw [hq] at h
    exact h
/-- What a right car's drive is within. -/
structure DriveC (c : Car) : Prop where
  clutch : 4294967296 ≤ (c.snd.snd.snd.snd.snd.snd.snd.snd.snd.snd.snd.snd.snd.fst : Int) ∧ (c.snd.snd.snd.snd.snd.snd.snd.snd.snd.snd.snd.snd.snd.fst : Int) ≤ 1099511627776
  hold : 0 ≤ (c.snd.snd.snd.snd.snd.snd.snd.snd.snd.snd.snd.snd.snd.snd.fst : Int) ∧ (c.snd.snd.snd.snd.snd.snd.snd.snd.snd.snd.snd.snd.snd.snd.fst : Int) ≤ 17592186044416
  lock : 0 ≤ (c.snd.snd.snd.snd.snd.snd.snd.snd.snd.snd.snd.snd.snd.snd.snd.snd.snd.snd.snd.fst : Int) ∧ (c.snd.snd.snd.snd.snd.snd.snd.snd.snd.snd.snd.snd.snd.snd.snd.snd.snd.snd.snd.fst : Int) ≤ 281474976710656
  limit : 0 ≤ (c.snd.snd.snd.snd.snd.snd.snd.snd.snd.snd.snd.snd.snd.snd.snd.snd.snd.snd.snd.snd.fst : Int) ∧ (c.snd.snd.snd.snd.snd.snd.snd.snd.snd.snd.snd.snd.snd.snd.snd.snd.snd.snd.snd.snd.fst : Int) ≤ 70368744177664
  kind : (c.snd.snd.snd.snd.snd.snd.snd.snd.snd.snd.snd.snd.snd.snd.snd.snd.snd.snd.fst : Int) = 0 ∨ (c.snd.snd.snd.snd.snd.snd.snd.snd.snd.snd.snd.snd.snd.snd.snd.snd.snd.snd.fst : Int) = 1 ∨ (c.snd.snd.snd.snd.snd.snd.snd.snd.snd.snd.snd.snd.snd.snd.snd.snd.snd.snd.fst : Int) = 2
theorem driveC {c : Car} (h : ∀ v ∈ allR c, v = 0) : DriveC c := by
  have h10 : engineR c = 0 := h _ (by unfold allR; simp)
  have h12 : restR c = 0 := h _ (by unfold allR; simp)
  have q := rangedR_zero (show rangedR [(c.snd.snd.snd.snd.snd.snd.snd.snd.fst, 0, 17179869184, ()), (c.snd.snd.snd.snd.snd.snd.snd.snd.snd.fst, 67108864, 68719476736, ()), (c.snd.snd.snd.snd.snd.snd.snd.snd.snd.snd.fst, 137438953472, 2199023255552, ()), (c.snd.snd.snd.snd.snd.snd.snd.snd.snd.snd.snd.fst, 274877906944, 8796093022208, ()), (c.snd.snd.snd.snd.snd.snd.snd.snd.snd.snd.snd.snd.fst, 0, 4294967296, ()), (c.snd.snd.snd.snd.snd.snd.snd.snd.snd.snd.snd.snd.snd.fst, 4294967296, 1099511627776, ()), (c.snd.snd.snd.snd.snd.snd.snd.snd.snd.snd.snd.snd.snd.snd.fst, 0, 17592186044416, ())] = 0 from by
    exact firstR_head h10)
  unfold restR at h12
  cases hd : (c.snd.snd.snd.snd.snd.snd.snd.snd.snd.snd.snd.snd.snd.snd.snd.snd.snd.snd.fst == (0 : Int) || (c.snd.snd.snd.snd.snd.snd.snd.snd.snd.snd.snd.snd.snd.snd.snd.snd.snd.snd.fst == (1 : Int) || c.snd.snd.snd.snd.snd.snd.snd.snd.snd.snd.snd.snd.snd.snd.snd.snd.snd.snd.fst == (2 : Int)))
  · rw [hd] at h12; exact absurd (show (40 : Int) = 0 from h12) (by decide)
  · rw [hd] at h12
    have r := rangedR_zero (show rangedR _ = 0 from h12)
    have r1 := r (c.snd.snd.snd.snd.snd.snd.snd.snd.snd.snd.snd.snd.snd.snd.snd.snd.snd.snd.snd.fst, 0, 281474976710656, ()) (by simp)
    have r2 := r (c.snd.snd.snd.snd.snd.snd.snd.snd.snd.snd.snd.snd.snd.snd.snd.snd.snd.snd.snd.snd.fst, 0, 70368744177664, ()) (by simp)
    refine ⟨q (c.snd.snd.snd.snd.snd.snd.snd.snd.snd.snd.snd.snd.snd.fst, 4294967296, 1099511627776, ()) (by simp), q (c.snd.snd.snd.snd.snd.snd.snd.snd.snd.snd.snd.snd.snd.snd.fst, 0, 17592186044416, ()) (by simp), r1, r2, ?_⟩
    simpa using hd
theorem I64_of {a k : Int} (h : -k ≤ a ∧ a ≤ k) (hk : k ≤ 9223372036854775807) : I64 a := by unfold I64; omega
theorem mulE {a b : Int} (ha : I64 a) (hb : I64 b) (h : I64 (mulV a b)) : fn20 (false, ()) (a, b, ()) = some (res (false, mulV a b)) := by
  rw [mul20 (false, ()) (a, b, ()) ha hb]
  show some (res (mulS false a b)) = _
  rw [mulF h]
theorem subE {a b : Int} (ha : I64 a) (hb : I64 b) (h : I64 (a - b)) : fn22 (false, ()) (a, b, ()) = some (res (false, a - b)) := by
  rw [sub16 (false, ()) (a, b, ()) ha hb]
  show some (res (subS false a b)) = _
  rw [subF h]
theorem addE {a b : Int} (ha : I64 a) (hb : I64 b) (h : I64 (a + b)) : fn23 (false, ()) (a, b, ()) = some (res (false, a + b)) := by
  rw [add38 (false, ()) (a, b, ()) ha hb]
  show some (res (addS false a b)) = _
  rw [addF h]
/-- What goes across an axle. -/
theorem lock21 (c : Car) (h : DriveC c) (l r : Int) (hl : -17592186044416 ≤ l ∧ l ≤ 17592186044416) (hr : -17592186044416 ≤ r ∧ r ≤ 17592186044416) :
    ∃ a : Int, fn21 (false, ()) (c, l, r, ()) = some (res (false, a)) ∧ (-70368744177664 ≤ a ∧ a ≤ 70368744177664) ∧ (r ≤ l → 0 ≤ a) ∧ (l ≤ r → a ≤ 0) := by
  have e1 : fn22 (false, ()) (l, r, ()) = some (res (false, l - r)) := subE (show I64 l from I64_of hl (by decide)) (show I64 r from I64_of hr (by decide)) (by unfold I64; omega)
  have b2 := mulV_in (a := (c.snd.snd.snd.snd.snd.snd.snd.snd.snd.snd.snd.snd.snd.snd.snd.snd.snd.snd.snd.fst : Int)) (b := l - r) (A := 281474976710656) (B := 35184372088832) (k := 2305843009213693952) (by have := h.lock; omega) (by omega) (by decide) (by decide) (by decide)
  have e2 : fn20 (false, ()) (c.snd.snd.snd.snd.snd.snd.snd.snd.snd.snd.snd.snd.snd.snd.snd.snd.snd.snd.snd.fst, l - r, ()) = some (res (false, mulV (c.snd.snd.snd.snd.snd.snd.snd.snd.snd.snd.snd.snd.snd.snd.snd.snd.snd.snd.snd.fst) (l - r))) := mulE (show I64 (c.snd.snd.snd.snd.snd.snd.snd.snd.snd.snd.snd.snd.snd.snd.snd.snd.snd.snd.snd.fst) from I64_of (k := 281474976710656) (by have := h.lock; omega) (by decide)) (show I64 (l - r) by unfold I64; omega) (by unfold I64; omega)
  have p1 : r ≤ l → 0 ≤ mulV (c.snd.snd.snd.snd.snd.snd.snd.snd.snd.snd.snd.snd.snd.snd.snd.snd.snd.snd.snd.fst) (l - r) := fun hh => mulV_pos h.lock.1 (by omega)
  have p2 : l ≤ r → mulV (c.snd.snd.snd.snd.snd.snd.snd.snd.snd.snd.snd.snd.snd.snd.snd.snd.snd.snd.snd.fst) (l - r) ≤ 0 := fun hh => mulV_neg h.lock.1 (by omega)
  unfold fn21 law21
  simp only
  rcases h.kind with hk | hk | hk
  · refine ⟨0, ?_, by omega, by omega, by omega⟩
    simp only [hk, beq_self_eq_true, cond_true]; rfl
  · have q := clampW_in (a := mulV (c.snd.snd.snd.snd.snd.snd.snd.snd.snd.snd.snd.snd.snd.snd.snd.snd.snd.snd.snd.fst) (l - r)) (k := 70368744177664) (by decide)
    refine ⟨clampW (mulV (c.snd.snd.snd.snd.snd.snd.snd.snd.snd.snd.snd.snd.snd.snd.snd.snd.snd.snd.snd.fst) (l - r)) (-70368744177664) 70368744177664, ?_, ⟨q.1, q.2.1⟩, fun hh => q.2.2.1 (p1 hh), fun hh => q.2.2.2 (p2 hh)⟩
    simp only [hk, show ((1 : Int) == 0) = false from rfl, show ((1 : Int) == 2) = false from rfl, cond_false, e1, Option.bind_some, res_1, res_2, e2, clamp24, show IntKind.i64.wrap (0 - 70368744177664) = -70368744177664 from by decide]
    rfl
  · have hlim := h.limit
    have q := clampW_in (a := mulV (c.snd.snd.snd.snd.snd.snd.snd.snd.snd.snd.snd.snd.snd.snd.snd.snd.snd.snd.snd.fst) (l - r)) (k := c.snd.snd.snd.snd.snd.snd.snd.snd.snd.snd.snd.snd.snd.snd.snd.snd.snd.snd.snd.snd.fst) hlim.1
    have w : IntKind.i64.wrap (0 - c.snd.snd.snd.snd.snd.snd.snd.snd.snd.snd.snd.snd.snd.snd.snd.snd.snd.snd.snd.snd.fst) = -(c.snd.snd.snd.snd.snd.snd.snd.snd.snd.snd.snd.snd.snd.snd.snd.snd.snd.snd.snd.snd.fst : Int) := by rw [i64_in _ (by omega)]; omega
    refine ⟨clampW (mulV (c.snd.snd.snd.snd.snd.snd.snd.snd.snd.snd.snd.snd.snd.snd.snd.snd.snd.snd.snd.fst) (l - r)) (-(c.snd.snd.snd.snd.snd.snd.snd.snd.snd.snd.snd.snd.snd.snd.snd.snd.snd.snd.snd.snd.fst : Int)) (c.snd.snd.snd.snd.snd.snd.snd.snd.snd.snd.snd.snd.snd.snd.snd.snd.snd.snd.snd.snd.fst), ?_, by omega, fun hh => q.2.2.1 (p1 hh), fun hh => q.2.2.2 (p2 hh)⟩
    simp only [hk, show ((2 : Int) == 0) = false from rfl, beq_self_eq_true, cond_false, cond_true, e1, Option.bind_some, res_1, res_2, e2, clamp24, w]
    rfl
/-- What an axle's wheels have. -/
theorem share11 (c : Car) (h : DriveC c) (t l r : Int) (ht : -18014398509481984 ≤ t ∧ t ≤ 18014398509481984) (hl : -17592186044416 ≤ l ∧ l ≤ 17592186044416) (hr : -17592186044416 ≤ r ∧ r ≤ 17592186044416) :
    ∃ a b : Int, fn11 (false, ()) (c, t, l, r, ()) = some ((false, ()), a, b, ()) ∧ (r ≤ l → a ≤ b) ∧ (l ≤ r → b ≤ a) ∧ a + b = 2 * mulV t 2147483648 ∧ (-10000000000000000 ≤ a ∧ a ≤ 10000000000000000) ∧ (-10000000000000000 ≤ b ∧ b ≤ 10000000000000000) := by
  have b1 := mulV_in (a := t) (b := 2147483648) (A := 18014398509481984) (B := 2147483648) (k := 9007199254740992) ht (by decide) (by decide) (by decide) (by decide)
  have e1 : fn20 (false, ()) (t, 2147483648, ()) = some (res (false, mulV t 2147483648)) := mulE (show I64 t from I64_of ht (by decide)) (show I64 2147483648 by unfold I64; decide) (by unfold I64; omega)
  obtain ⟨a, e2, b2, p1, p2⟩ := lock21 c h l r hl hr
  have e3 : fn22 (false, ()) (mulV t 2147483648, a, ()) = some (res (false, mulV t 2147483648 - a)) := subE (show I64 (mulV t 2147483648) by unfold I64; omega) (show I64 a by unfold I64; omega) (by unfold I64; omega)
  have e4 : fn23 (false, ()) (mulV t 2147483648, a, ()) = some (res (false, mulV t 2147483648 + a)) := addE (show I64 (mulV t 2147483648) by unfold I64; omega) (show I64 a by unfold I64; omega) (by unfold I64; omega)
  refine ⟨mulV t 2147483648 - a, mulV t 2147483648 + a, ?_, fun hh => by have := p1 hh; omega, fun hh => by have := p2 hh; omega, by omega, by omega, by omega⟩
  unfold fn11 law11
  simp only [e1, Option.bind_some, res_1, res_2, e2, e3, e4]
theorem few6 (c : Car) (hc : OkC c) : ∃ b, fn6 (c, ()) = some (b, ()) ∧ (b = true → FewC c) := ex6 c hc.steer hc.rate
theorem true4 (c : Car) (t l r u v : Int) (hc : OkC c) : fn4 (c, t, (l, r, u, v, ()), ()) = some (true, ()) := by
  unfold fn4 law4
  obtain ⟨b, hb, hf⟩ := few6 c hc
  simp only [hb, Option.bind_some]
  cases b
  case false => rfl
  simp only [Bool.not_true, cond_false, ex7 c (hf rfl), Option.bind_some]
  cases h0 : (rightR c).1 != 0
  case true => rfl
  have hv := rightR_zero (show (rightR c).1 = 0 by simpa using h0)
  have hD := driveC hv
  simp only [cond_false, in8 (k := 18014398509481984) (by decide), in8 (k := 17592186044416) (by decide), Option.bind_some]
  by_cases ht : -18014398509481984 ≤ t ∧ t ≤ 18014398509481984
  case neg => rw [decide_eq_false ht]; rfl
  rw [decide_eq_true ht]
  by_cases hl : -17592186044416 ≤ l ∧ l ≤ 17592186044416
  case neg => rw [decide_eq_false hl]; rfl
  rw [decide_eq_true hl]
  by_cases hr : -17592186044416 ≤ r ∧ r ≤ 17592186044416
  case neg => rw [decide_eq_false hr]; rfl
  rw [decide_eq_true hr]
  obtain ⟨p, q, e, h1, h2, -, -, -⟩ := share11 c hD t l r ht hl hr
  simp only [Bool.not_true, cond_false, e, Option.bind_some, Bool.not_false, cond_true]
  by_cases k1 : l < r
  · have k2 : ¬ r < l := by omega
    have k3 : q ≤ p := h2 (by omega)
    simp only [k1, k2, k3, decide_true, decide_false, cond_true, cond_false]
  · have k3 : p ≤ q := h1 (by omega)
    simp only [k1, k3, decide_true, decide_false, cond_true, cond_false]
    by_cases k2 : r < l
    · simp only [k2, decide_true, cond_true]
    · have k4 : q ≤ p := h2 (by omega)
      simp only [k2, k4, decide_true, decide_false, cond_true, cond_false]
theorem clutch12 (c : Car) (h : DriveC c) (s e f : Int) (hs : 0 ≤ s ∧ s ≤ 4294967296) (he : -17592186044416 ≤ e ∧ e ≤ 17592186044416) (hf : -18014398509481984 ≤ f ∧ f ≤ 18014398509481984) :
    ∃ t : Int, fn12 (false, ()) (c, s, e, f, ()) = some (res (false, t)) ∧ (-(c.snd.snd.snd.snd.snd.snd.snd.snd.snd.snd.snd.snd.snd.snd.fst : Int) ≤ t ∧ t ≤ c.snd.snd.snd.snd.snd.snd.snd.snd.snd.snd.snd.snd.snd.snd.fst) ∧ (f ≤ e → 0 ≤ t) ∧ (e ≤ f → t ≤ 0) := by
  have hh := h.hold
  have m0 := mulV_pos hh.1 hs.1
  have m1 := mulV_le hh.1 hs
  have e1 : fn20 (false, ()) (c.snd.snd.snd.snd.snd.snd.snd.snd.snd.snd.snd.snd.snd.snd.fst, s, ()) = some (res (false, mulV (c.snd.snd.snd.snd.snd.snd.snd.snd.snd.snd.snd.snd.snd.snd.fst) s)) := mulE (show I64 (c.snd.snd.snd.snd.snd.snd.snd.snd.snd.snd.snd.snd.snd.snd.fst) by unfold I64; omega) (show I64 s by unfold I64; omega) (by unfold I64; omega)
  have e2 : fn22 (false, ()) (e, f, ()) = some (res (false, e - f)) := subE (show I64 e from I64_of he (by decide)) (show I64 f from I64_of hf (by decide)) (by unfold I64; omega)
  have hc := h.clutch
  have b3 := mulV_in (a := (c.snd.snd.snd.snd.snd.snd.snd.snd.snd.snd.snd.snd.snd.fst : Int)) (b := e - f) (A := 1099511627776) (B := 18031990695526400) (k := 4616189618054758400) (by omega) (by omega) (by decide) (by decide) (by decide)
  have e3 : fn20 (false, ()) (c.snd.snd.snd.snd.snd.snd.snd.snd.snd.snd.snd.snd.snd.fst, e - f, ()) = some (res (false, mulV (c.snd.snd.snd.snd.snd.snd.snd.snd.snd.snd.snd.snd.snd.fst) (e - f))) := mulE (show I64 (c.snd.snd.snd.snd.snd.snd.snd.snd.snd.snd.snd.snd.snd.fst) by unfold I64; omega) (show I64 (e - f) by unfold I64; omega) (by unfold I64; omega)
  have w : IntKind.i64.wrap (0 - mulV (c.snd.snd.snd.snd.snd.snd.snd.snd.snd.snd.snd.snd.snd.snd.fst) s) = -(mulV (c.snd.snd.snd.snd.snd.snd.snd.snd.snd.snd.snd.snd.snd.snd.fst) s) := by rw [i64_in _ (by omega)]; omega
  have q := clampW_in (a := mulV (c.snd.snd.snd.snd.snd.snd.snd.snd.snd.snd.snd.snd.snd.fst) (e - f)) (k := mulV (c.snd.snd.snd.snd.snd.snd.snd.snd.snd.snd.snd.snd.snd.snd.fst) s) m0
  have k0 : ¬ (0 : Int) > mulV (c.snd.snd.snd.snd.snd.snd.snd.snd.snd.snd.snd.snd.snd.snd.fst) s := by omega
  refine ⟨clampW (mulV (c.snd.snd.snd.snd.snd.snd.snd.snd.snd.snd.snd.snd.snd.fst) (e - f)) (-(mulV (c.snd.snd.snd.snd.snd.snd.snd.snd.snd.snd.snd.snd.snd.snd.fst) s)) (mulV (c.snd.snd.snd.snd.snd.snd.snd.snd.snd.snd.snd.snd.snd.snd.fst) s), ?_, by omega, fun k => q.2.2.1 (mulV_pos (by omega) (by omega)), fun k => q.2.2.2 (mulV_neg (by omega) (by omega))⟩
  unfold fn12 law12
  simp only [e1, Option.bind_some, res_1, res_2, e2, e3, k0, if_false, w, clamp24]
  rfl
theorem true5 (c : Car) (s e f : Int) (hc : OkC c) : fn5 (c, (s, e, f, ()), ()) = some (true, ()) := by
  unfold fn5 law5
  obtain ⟨b, hb, hf⟩ := few6 c hc
  simp only [hb, Option.bind_some]
  cases b
  case false => rfl
  simp only [Bool.not_true, cond_false, ex7 c (hf rfl), Option.bind_some]
  cases h0 : (rightR c).1 != 0
  case true => rfl
  have hv := rightR_zero (show (rightR c).1 = 0 by simpa using h0)
  have hD := driveC hv
  have hh := hD.hold
  simp only [cond_false, in8 (k := 18014398509481984) (by decide), in8 (k := 17592186044416) (by decide), Option.bind_some]
  by_cases s1 : s < 0
  · simp only [s1, decide_true, cond_true]
  by_cases s2 : s > 4294967296
  · simp only [s1, s2, decide_true, decide_false, cond_true, cond_false]
  simp only [s1, s2, decide_false, cond_false]
  by_cases he : -17592186044416 ≤ e ∧ e ≤ 17592186044416
  case neg => rw [decide_eq_false he]; rfl
  rw [decide_eq_true he]
  by_cases hf : -18014398509481984 ≤ f ∧ f ≤ 18014398509481984
  case neg => rw [decide_eq_false hf]; rfl
  rw [decide_eq_true hf]
  obtain ⟨t, e1, ht, h1, h2⟩ := clutch12 c hD s e f (by omega) he hf
  simp only [Bool.not_true, cond_false, e1, Option.bind_some, res_1, res_2, in8 (k := (c.snd.snd.snd.snd.snd.snd.snd.snd.snd.snd.snd.snd.snd.snd.fst : Int)) (by omega)]
  simp only [eq_true ht, decide_true, cond_true]
  by_cases k1 : e < f
  · have k2 : ¬ e > f := by omega
    have k3 : t ≤ 0 := h2 (by omega)
    simp only [k1, k2, k3, decide_true, decide_false, cond_true, cond_false]
  · have k3 : t ≥ 0 := h1 (by omega)
    simp only [k1, k3, decide_true, decide_false, cond_true, cond_false]
    by_cases k2 : e > f
    · simp only [k2, decide_true, cond_true]
    · have k4 : t ≤ 0 := h2 (by omega)
      simp only [k2, k4, decide_true, decide_false, cond_true, cond_false]
theorem true4o (y : Sh.Ts [CarSh, .int .i64, .st [.int .i64, .int .i64, .int .i64, .int .i64]]) (hy : Sh.oks [CarSh, .int .i64, .st [.int .i64, .int .i64, .int .i64, .int .i64]] y) : fn4 y = some (true, ()) := true4 y.1 y.2.1 y.2.2.1.1 y.2.2.1.2.1 y.2.2.1.2.2.1 y.2.2.1.2.2.2.1 (okC hy.1)
theorem true5o (y : Sh.Ts [CarSh, .st [.int .i64, .int .i64, .int .i64]]) (hy : Sh.oks [CarSh, .st [.int .i64, .int .i64, .int .i64]] y) : fn5 y = some (true, ()) := true5 y.1 y.2.1.1 y.2.1.2.1 y.2.1.2.2.1 (okC hy.1)

end Go.Proofs.Ytlpnlhokheohgaa
