/- Plain Lean: what the laws of this program's functions come to, in numbers and lists; no program is run here. -/
import Derived.Test.YthlfckhjhagfaaaPP26y
set_option linter.unusedVariables false
set_option linter.unusedSimpArgs false
set_option maxRecDepth 100000
namespace Go.Proofs.Ythlfckhjhagfaaa
open Go Go.Ab Go.Proofs Go.IntWalk
/- TyreSlows in plain Lean (r26): what a tyre gives, its signs and bounds. -/
theorem inn6 {a k : Int} (hk : 0 ≤ k ∧ k ≤ 9223372036854775807) : fn6 (a, k, ()) = some (decide (-k ≤ a ∧ a ≤ k), ()) := by
  unfold fn6 law6
  have e : IntKind.i64.wrap (0 - k) = -k := by rw [i64_in _ (by omega)]; omega
  rw [e]
  by_cases c : a ≤ k
  · rw [decide_eq_true (p := a ≤ k) c]
    by_cases d : -k ≤ a
    · rw [decide_eq_true (show a ≥ -k from d), decide_eq_true (show -k ≤ a ∧ a ≤ k from ⟨d, c⟩)]; rfl
    · rw [decide_eq_false (show ¬ a ≥ -k from d), decide_eq_false (show ¬ (-k ≤ a ∧ a ≤ k) from fun h => d h.1)]; rfl
  · rw [decide_eq_false (p := a ≤ k) c, decide_eq_false (show ¬ (-k ≤ a ∧ a ≤ k) from fun h => c h.2)]; rfl
theorem firstR_head {a : Int} {l : List Int} (h : firstR (a :: l) = 0) : a = 0 := by
  unfold firstR at h
  simp only [scanL] at h
  cases hq : a != 0 with
  | false => simpa using hq
  | true =>
    rw [hq] at h
    exact h
theorem sideC {c : Car} (h : ∀ v ∈ allR c, v = 0) : 0 ≤ (c.snd.snd.snd.snd.snd.snd.snd.snd.fst : Int) ∧ (c.snd.snd.snd.snd.snd.snd.snd.snd.fst : Int) ≤ 17179869184 := by
  have h10 : engineR c = 0 := h _ (by unfold allR; simp)
  exact rangedR_zero (firstR_head h10) (c.snd.snd.snd.snd.snd.snd.snd.snd.fst, 0, 17179869184, ()) (by simp)
/-- What a right tyre's pane tells. -/
theorem tyreC {c : Car} (h : ∀ v ∈ allR c, v = 0) : (paneR (c.snd.snd.snd.snd.snd.fst) != 0) = false ∧ ∀ x y, 0 ≤ paneV (c.snd.snd.snd.snd.snd.fst) x y ∧ paneV (c.snd.snd.snd.snd.snd.fst) x y ≤ 17179869184 := by
  have ht : tyreR (c.snd.snd.snd.snd.snd.fst) = 0 := h _ (by unfold allR; simp)
  have hp : (paneR (c.snd.snd.snd.snd.snd.fst) != 0) = false := by
    cases hq : paneR (c.snd.snd.snd.snd.snd.fst) != 0
    · rfl
    · unfold tyreR at ht
      rw [hq] at ht
      simp only [cond_true] at ht
      rw [ht] at hq; exact absurd hq (by decide)
  refine ⟨hp, fun x y => ?_⟩
  rw [tyreR_eq hp] at ht
  have hR := rightP_of hp
  obtain ⟨x0, xs, y0, ys, v, vs, _, _, hv⟩ := pane_heads hp
  have e : boundsP (c.snd.snd.snd.snd.snd.fst) = (minL (c.snd.snd.snd.snd.snd.fst).2.2.1.flatten, maxL (c.snd.snd.snd.snd.snd.fst).2.2.1.flatten) := by unfold boundsP; rw [hp]; rfl
  have hb : 0 ≤ (boundsP (c.snd.snd.snd.snd.snd.fst)).1 ∧ (boundsP (c.snd.snd.snd.snd.snd.fst)).2 ≤ 17179869184 := by
    cases hq : (decide ((c.snd.snd.snd.snd.snd.fst).1.headD 0 < 0) || (decide ((c.snd.snd.snd.snd.snd.fst).2.1.headD 0 < 0) || (decide ((boundsP (c.snd.snd.snd.snd.snd.fst)).1 < 0) || decide ((boundsP (c.snd.snd.snd.snd.snd.fst)).2 > 17179869184))))
    · simp only [Bool.or_eq_false_iff, decide_eq_false_iff_not] at hq
      omega
    · rw [hq] at ht; exact absurd (show (40 : Int) = 0 from ht) (by decide)
  rw [e] at hb
  refine hR.between x y fun r hr a ha => ?_
  have hm : a ∈ (c.snd.snd.snd.snd.snd.fst).2.2.1.flatten := List.mem_flatten.2 ⟨r, hr, ha⟩
  rw [hv] at hm hb
  have q1 := minL_le a hm
  have q2 := le_maxL a hm
  omega
theorem mulE {a b : Int} (ha : I64 a) (hb : I64 b) (h : I64 (mulV a b)) : fn13 (false, ()) (a, b, ()) = some (res (false, mulV a b)) := by
  rw [mul20 (false, ()) (a, b, ()) ha hb]
  show some (res (mulS false a b)) = _
  rw [mulF h]
theorem divE {a b : Int} (ha : I64 a) (hb : I64 b) (h0 : 0 < b) (h : I64 (divV a b)) : fn19 (false, ()) (a, b, ()) = some (res (false, divV a b)) := by
  rw [div30 (false, ()) (a, b, ()) ha hb]
  show some (res (divS false a b)) = _
  rw [divF h0 h]
theorem negE {a : Int} (ha : I64 a) (h : I64 (-a)) : fn24 (false, ()) (a, ()) = some (res (false, -a)) := by
  rw [neg29 (false, ()) (a, ()) ha]
  show some (res (subS false 0 a)) = _
  rw [subF (by rw [Int.zero_sub]; exact h), Int.zero_sub]
theorem absE {a : Int} (ha : 0 ≤ a ∧ a ≤ 9223372036854775807) : fn16 (false, ()) (a, ()) = some (res (false, a)) := by
  rw [abs14 (false, ()) (a, ()) (show I64 a by unfold I64; omega)]
  show some (res (absS false a)) = _
  unfold absS
  rw [if_neg (by omega)]
theorem grip14 (c : Car) (hok : OkC c) (hf : FewC c) (hv : ∀ v ∈ allR c, v = 0) (load slip : Int) (hl : I64 load) (hs : 0 ≤ slip ∧ slip ≤ 9223372036854775807) : fn14 (false, ()) (c, load, slip, ()) = some (res (false, paneV (c.snd.snd.snd.snd.snd.fst) slip load)) := by
  unfold fn14 law14
  simp only [absE hs, Option.bind_some, res_1, res_2]
  rw [eval16 false (c.snd.snd.snd.snd.snd.fst) hf.pane hok.tyre (tyreC hv).1 slip load (show I64 slip by unfold I64; omega) hl]
  rfl
theorem sq_le {a b : Int} (hb : 0 ≤ b) (h : a * a < (b + 1) * (b + 1)) : -b ≤ a ∧ a ≤ b := by
  constructor
  · rcases Int.lt_or_le a (-b) with k | k
    · exfalso
      have : (b + 1) * (b + 1) ≤ (-a) * (-a) := Int.mul_le_mul (by omega) (by omega) (by omega) (by omega)
      rw [Int.neg_mul_neg] at this; omega
    · exact k
  · rcases Int.lt_or_le b a with k | k
    · exfalso
      have : (b + 1) * (b + 1) ≤ a * a := Int.mul_le_mul k k (by omega) (by omega)
      omega
    · exact k
theorem divV_one {a b : Int} (hb : 0 < b) (h : -b ≤ a ∧ a ≤ b) : -4294967296 ≤ divV a b ∧ divV a b ≤ 4294967296 := by
  unfold divV
  rw [if_neg (by omega)]
  exact ⟨le_rnd hb (by omega), rnd_le hb (by omega)⟩
/-- What a tyre gives: nothing, or by how it grips. -/
theorem force11 (c : Car) (hok : OkC c) (hf : FewC c) (hv : ∀ v ∈ allR c, v = 0) (load grip a b : Int) (hl : 0 ≤ load ∧ load ≤ 1125899906842624) (hg : 0 ≤ grip ∧ grip ≤ 8589934592) (ha : -17179869184 ≤ a ∧ a ≤ 17179869184) (hb : -17179869184 ≤ b ∧ b ≤ 17179869184) :
    ∃ w r g W p q : Int, w = mulV (c.snd.snd.snd.snd.snd.snd.snd.snd.fst) b ∧ (-68719476736 ≤ w ∧ w ≤ 68719476736) ∧ fn12 (false, ()) (a, w, ()) = some (res (false, r)) ∧ 0 ≤ r ∧ r ≤ 9223372036854775807 ∧ r * r ≤ a * a + w * w ∧ a * a + w * w < (r + 1) * (r + 1) ∧
      g = paneV (c.snd.snd.snd.snd.snd.fst) r load ∧ W = mulV load (mulV g grip) ∧ 0 ≤ W ∧ W ≤ 9007199254740992 ∧
      fn11 (false, ()) (c, load, grip, a, b, ()) = some ((false, ()), p, q, ()) ∧ ((p = 0 ∧ q = 0 ∧ (r = 0 ∨ load ≤ 0)) ∨ (0 < r ∧ 0 < load ∧ p = mulV W (divV a r) ∧ q = -(mulV W (divV w r)) ∧ (-9007199254740992 ≤ p ∧ p ≤ 9007199254740992) ∧ (-9007199254740992 ≤ q ∧ q ≤ 9007199254740992))) := by
  have hS := sideC hv
  have bw := mulV_in (a := (c.snd.snd.snd.snd.snd.snd.snd.snd.fst : Int)) (b := b) (A := 17179869184) (B := 17179869184) (k := 68719476736) (by omega) hb (by decide) (by decide) (by decide)
  have e0 : fn13 (false, ()) (c.snd.snd.snd.snd.snd.snd.snd.snd.fst, b, ()) = some (res (false, mulV (c.snd.snd.snd.snd.snd.snd.snd.snd.fst) b)) := mulE (show I64 (c.snd.snd.snd.snd.snd.snd.snd.snd.fst) by unfold I64; omega) (show I64 b by unfold I64; omega) (by unfold I64; omega)
  obtain ⟨w, hw⟩ : ∃ w, w = mulV (c.snd.snd.snd.snd.snd.snd.snd.snd.fst) b := ⟨_, rfl⟩
  rw [← hw] at bw e0
  obtain ⟨r, e1, r0, r1, r2, r3⟩ := len12 false a w (by omega) (by omega)
  obtain ⟨g, hgd⟩ : ∃ g, g = paneV (c.snd.snd.snd.snd.snd.fst) r load := ⟨_, rfl⟩
  have hgb := (tyreC hv).2 r load
  rw [← hgd] at hgb
  have e2 : fn14 (false, ()) (c, load, r, ()) = some (res (false, g)) := by rw [hgd]; exact grip14 c hok hf hv load r (show I64 load by unfold I64; omega) ⟨r0, r1⟩
  have b3 := mulV_in (a := g) (b := grip) (A := 17179869184) (B := 8589934592) (k := 34359738368) (by omega) (by omega) (by decide) (by decide) (by decide)
  have p3 := mulV_pos hgb.1 hg.1
  have e3 : fn13 (false, ()) (g, grip, ()) = some (res (false, mulV g grip)) := mulE (show I64 g by unfold I64; omega) (show I64 grip by unfold I64; omega) (by unfold I64; omega)
  obtain ⟨G, hG⟩ : ∃ G, G = mulV g grip := ⟨_, rfl⟩
  rw [← hG] at b3 p3 e3
  have b4 := mulV_in (a := load) (b := G) (A := 1125899906842624) (B := 34359738368) (k := 9007199254740992) (by omega) (by omega) (by decide) (by decide) (by decide)
  have p4 := mulV_pos hl.1 p3
  have e4 : fn13 (false, ()) (load, G, ()) = some (res (false, mulV load G)) := mulE (show I64 load by unfold I64; omega) (show I64 G by unfold I64; omega) (by unfold I64; omega)
  obtain ⟨W, hW⟩ : ∃ W, W = mulV load G := ⟨_, rfl⟩
  rw [← hW] at b4 p4 e4
  refine ⟨w, r, g, W, ?_⟩
  by_cases hz : r = 0 ∨ load ≤ 0
  · refine ⟨0, 0, hw, bw, e1, r0, r1, r2, r3, hgd, by rw [hW, hG], p4, b4.2, ?_, .inl ⟨rfl, rfl, hz⟩⟩
    unfold fn11 law11
    simp only [e0, Option.bind_some, res_1, res_2, e1]
    rcases hz with hz | hz
    · subst hz; rfl
    · cases hq : r == 0
      · simp only [cond_false, hz, decide_true, cond_true]
      · rfl
  · have hr : 0 < r := by omega
    have hl0 : 0 < load := by omega
    have qa := sq_le (a := a) r0 (by have := sq_nn w; omega)
    have qw := sq_le (a := w) r0 (by have := sq_nn a; omega)
    have d1 := divV_one hr qa
    have d2 := divV_one hr qw
    have e5 : fn19 (false, ()) (a, r, ()) = some (res (false, divV a r)) := divE (show I64 a by unfold I64; omega) (show I64 r by unfold I64; omega) hr (by unfold I64; omega)
    have e7 : fn19 (false, ()) (w, r, ()) = some (res (false, divV w r)) := divE (show I64 w by unfold I64; omega) (show I64 r by unfold I64; omega) hr (by unfold I64; omega)
    have b6 := mulV_in (a := W) (b := divV a r) (A := 9007199254740992) (B := 4294967296) (k := 9007199254740992) (by omega) d1 (by decide) (by decide) (by decide)
    have b8 := mulV_in (a := W) (b := divV w r) (A := 9007199254740992) (B := 4294967296) (k := 9007199254740992) (by omega) d2 (by decide) (by decide) (by decide)
    have e6 : fn13 (false, ()) (W, divV a r, ()) = some (res (false, mulV W (divV a r))) := mulE (show I64 W by unfold I64; omega) (show I64 (divV a r) by unfold I64; omega) (by unfold I64; omega)
    have e8 : fn13 (false, ()) (W, divV w r, ()) = some (res (false, mulV W (divV w r))) := mulE (show I64 W by unfold I64; omega) (show I64 (divV w r) by unfold I64; omega) (by unfold I64; omega)
    have e9 : fn24 (false, ()) (mulV W (divV w r), ()) = some (res (false, -(mulV W (divV w r)))) := negE (show I64 (mulV W (divV w r)) by unfold I64; omega) (by unfold I64; omega)
    refine ⟨mulV W (divV a r), -(mulV W (divV w r)), hw, bw, e1, r0, r1, r2, r3, hgd, by rw [hW, hG], p4, b4.2, ?_, .inr ⟨hr, hl0, rfl, rfl, b6, by omega⟩⟩
    unfold fn11 law11
    have k1 : (r == 0) = false := by simpa using (show r ≠ 0 by omega)
    have k2 : ¬ load ≤ 0 := by omega
    simp only [e0, Option.bind_some, res_1, res_2, e1, k1, cond_false, k2, decide_false, e2, e3, e4, e5, e6, e7, e8, e9]
theorem right10 (c : Car) (hf : FewC c) (load grip a b : Int) : ∃ t, fn10 (c, (load, grip, a, b, ()), ()) = some (t, ()) ∧ (t = true → (∀ v ∈ allR c, v = 0) ∧ (0 ≤ load ∧ load ≤ 1125899906842624) ∧ (0 ≤ grip ∧ grip ≤ 8589934592) ∧ (-17179869184 ≤ a ∧ a ≤ 17179869184) ∧ (-17179869184 ≤ b ∧ b ≤ 17179869184)) := by
  unfold fn10 law10
  simp only [ex22 c hf, Option.bind_some, inn6 (k := 17179869184) (by decide)]
  cases h0 : (rightR c).1 == 0
  case false => exact ⟨false, rfl, fun h => by cases h⟩
  by_cases h1 : load ≥ 0
  case neg => exact ⟨false, by simp only [h1, decide_false, cond_true, cond_false], fun h => by cases h⟩
  by_cases h2 : load ≤ 1125899906842624
  case neg => exact ⟨false, by simp only [h1, h2, decide_true, decide_false, cond_true, cond_false], fun h => by cases h⟩
  by_cases h3 : grip ≥ 0
  case neg => exact ⟨false, by simp only [h1, h2, h3, decide_true, decide_false, cond_true, cond_false], fun h => by cases h⟩
  by_cases h4 : grip ≤ 8589934592
  case neg => exact ⟨false, by simp only [h1, h2, h3, h4, decide_true, decide_false, cond_true, cond_false], fun h => by cases h⟩
  by_cases h5 : -17179869184 ≤ a ∧ a ≤ 17179869184
  case neg =>
    refine ⟨false, ?_, fun h => by cases h⟩
    simp only [h1, h2, h3, h4, decide_true, cond_true]
    rw [decide_eq_false h5]; rfl
  refine ⟨decide (-17179869184 ≤ b ∧ b ≤ 17179869184), ?_, fun h => ⟨rightR_zero (by simpa using h0), ⟨h1, h2⟩, ⟨h3, h4⟩, h5, by simpa using h⟩⟩
  simp only [h1, h2, h3, h4, decide_true, cond_true]
  rw [decide_eq_true h5]; rfl
theorem true4 (c : Car) (hok : OkC c) (load grip a b : Int) : fn4 (c, (load, grip, a, b, ()), ()) = some (true, ()) := by
  unfold fn4 law4
  obtain ⟨bb, hb, hf⟩ := ex9 c hok.steer hok.rate
  simp only [hb, Option.bind_some]
  cases bb
  case false => rfl
  have hf := hf rfl
  obtain ⟨t, ht, htt⟩ := right10 c hf load grip a b
  simp only [Bool.not_true, cond_false, ht, Option.bind_some]
  cases t
  case false => rfl
  obtain ⟨hv, hl, hg, ha, hbb⟩ := htt rfl
  obtain ⟨w, r, g, W, p, q, hw, bw, -, r0, -, -, -, -, -, W0, -, e, hpq⟩ := force11 c hok hf hv load grip a b hl hg ha hbb
  have hS := sideC hv
  have w1 : 0 ≤ b → 0 ≤ w := fun h => by rw [hw]; exact mulV_pos hS.1 h
  have w2 : b ≤ 0 → w ≤ 0 := fun h => by rw [hw]; exact mulV_neg hS.1 h
  have s : (0 ≤ a → 0 ≤ p) ∧ (a ≤ 0 → p ≤ 0) ∧ (0 ≤ b → q ≤ 0) ∧ (b ≤ 0 → 0 ≤ q) := by
    rcases hpq with ⟨h1, h2, _⟩ | ⟨hr, _, h1, h2, _, _⟩
    · omega
    · refine ⟨fun h => by rw [h1]; exact mulV_pos W0 (divV_pos hr h), fun h => by rw [h1]; exact mulV_neg W0 (divV_neg hr h), fun h => ?_, fun h => ?_⟩
      · have := mulV_pos W0 (divV_pos hr (w1 h)); omega
      · have := mulV_neg W0 (divV_neg hr (w2 h)); omega
  simp only [Bool.not_true, cond_false, e, Option.bind_some, Bool.not_false, cond_true]
  obtain ⟨s1, s2, s3, s4⟩ := s
  have K : (bif decide (b < 0) then (bif decide (b > 0) then some ((true, ())) else (bif decide (q ≥ 0) then some ((true, ())) else some ((false, ())))) else (bif decide (q ≤ 0) then (bif decide (b > 0) then some ((true, ())) else (bif decide (q ≥ 0) then some ((true, ())) else some ((false, ())))) else some ((false, ())))) = (some (true, ()) : Option (Bool × Unit)) := by
    by_cases k1 : b < 0
    · have k2 : ¬ b > 0 := by omega
      have k3 : q ≥ 0 := s4 (by omega)
      simp only [k1, k2, k3, decide_true, decide_false, cond_true, cond_false]
    · have k3 : q ≤ 0 := s3 (by omega)
      simp only [k1, k3, decide_true, decide_false, cond_true, cond_false]
      by_cases k2 : b > 0
      · simp only [k2, decide_true, cond_true]
      · have k4 : q ≥ 0 := s4 (by omega)
        simp only [k2, k4, decide_true, decide_false, cond_true, cond_false]
  by_cases k1 : a < 0
  · have k2 : ¬ a > 0 := by omega
    have k3 : p ≤ 0 := s2 (by omega)
    simp only [k1, k2, k3, decide_true, decide_false, cond_true, cond_false]
    exact K
  · have k3 : p ≥ 0 := s1 (by omega)
    simp only [k1, k3, decide_true, decide_false, cond_true, cond_false]
    by_cases k2 : a > 0
    · simp only [k2, decide_true, cond_true]
      exact K
    · have k4 : p ≤ 0 := s2 (by omega)
      simp only [k2, k4, decide_true, decide_false, cond_true, cond_false]
      exact K
theorem true4o (y : Sh.Ts [CarSh, .st [.int .i64, .int .i64, .int .i64, .int .i64]]) (hy : Sh.oks [CarSh, .st [.int .i64, .int .i64, .int .i64, .int .i64]] y) : fn4 y = some (true, ()) := true4 y.1 (okC hy.1) y.2.1.1 y.2.1.2.1 y.2.1.2.2.1 y.2.1.2.2.2.1

end Go.Proofs.Ythlfckhjhagfaaa
